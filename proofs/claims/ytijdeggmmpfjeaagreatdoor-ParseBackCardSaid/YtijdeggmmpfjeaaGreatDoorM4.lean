/- Part of the proof: AmStep, AmCall, AmOper, AmX. -/
import Derived.Test.YtijdeggmmpfjeaaGreatDoorM3
import Derived.Laws.Bits64b
import Derived.Laws.RangeString
import Derived.Laws.Build
import Derived.Lib.UnsafeStr
import Derived.Lib.ConvBytes
set_option linter.unusedSimpArgs false
set_option linter.unusedVariables false
set_option linter.unusedSectionVars false
namespace Go.Am
open Go Go.RowKit
def aand (a b : Int) : Option AV :=
  match a, b with
  | .ofNat x, .ofNat y => bif Nat.blt x 18446744073709551616 then bif Nat.blt y 18446744073709551616 then some (.int .u64 (.ofNat (Nat.land x y))) else none else none
  | _, _ => none
def ashr (a b : Int) : Option AV :=
  match a, b with
  | .ofNat x, .ofNat y => bif Nat.ble y 64 then some (.int .u64 (.ofNat (x / 2 ^ y))) else none
  | _, _ => none
theorem aand_sound {P : Program} {w : World} {t : TypeId} {a b : Int} {v : AV} (h : aand a b = some v) (M : Map) : ∃ c, conc M v = some c ∧ (binOp .and t (.int .u64 a) (.int .u64 b)).run P w = .ok c w := by
  unfold aand at h
  split at h
  · rename_i x y
    simp only [cond_some, blt_iff, decide_eq_true_eq, Option.some.injEq] at h
    obtain ⟨h1, h2, rfl⟩ := h
    refine ⟨_, rfl, ?_⟩
    rw [binOp_and, intBits_and]
    have := bits_and_u64_nat x y h1 h2
    simp only [Sem.run_pure]
    congr 2
  · cases h
theorem ashr_sound {P : Program} {w : World} {t : TypeId} {k' : IntKind} {a b : Int} {v : AV} (h : ashr a b = some v) (M : Map) : ∃ c, conc M v = some c ∧ (binOp .shr t (.int .u64 a) (.int k' b)).run P w = .ok c w := by
  unfold ashr at h
  split at h
  · rename_i x y
    simp only [cond_some, Option.some.injEq] at h
    obtain ⟨h1, rfl⟩ := h
    have h1' : y ≤ 64 := by simpa using h1
    refine ⟨_, rfl, ?_⟩
    have h0 : ¬ (Int.ofNat y < 0) := by
      have : (Int.ofNat y) = (y : Int) := rfl
      omega
    have hm : min (Int.ofNat y).toNat IntKind.u64.bits = y := by
      simp only [Int.ofNat_eq_natCast, Int.toNat_natCast, IntKind.bits]
      omega
    rw [binOp_shr]
    simp only [Op.shift, if_neg h0, hm, Sem.run_pure]
    congr 2
    simp only [Int.ofNat_eq_natCast]
    rw [Int.fdiv_eq_ediv_of_nonneg _ (by
      have : (0 : Int) < 2 ^ y := by exact_mod_cast Nat.two_pow_pos y
      omega)]
    simp
  · cases h
def isConstO : Operand → Bool
  | .const _ => true
  | _ => false
def aguard (P : Program) (t : TypeId) (x y : Operand) (a b : AV) : Bool :=
  match a with
  | .niliface => match b with
    | .niliface => isConstO x || isConstO y
    | .iface _ _ => true
    | _ => false
  | .agg _ => match b with
    | .agg _ => !P.eqGuardType P.depth t
    | _ => false
  | .tuple _ => false
  | _ => true
theorem aguard_sound {P : Program} {M : Map} {op : BinOp} {t : TypeId} {x y : Operand} {a b : AV} (h : aguard P t x y a b = true) {ca cb : Value} (ha : conc M a = some ca) (hb : conc M b = some cb) (w : World) :
    (eqGuard op t x y ca cb).run P w = .ok () w := by
  have triv : ∀ {s : Sem Unit}, s = Pure.pure () → s.run P w = .ok () w := fun e => by rw [e]; rfl
  cases a <;> simp only [aguard] at h
  case niliface =>
    simp only [conc, Option.some.injEq] at ha
    subst ha
    cases b <;> simp only [Bool.false_eq_true] at h
    case niliface =>
      simp only [conc, Option.some.injEq] at hb
      subst hb
      cases x <;> cases y <;> simp only [isConstO, Bool.or_self, Bool.false_eq_true, Bool.or_true, Bool.or_false] at h
      all_goals first
        | exact triv (eqGuard_nil_constR _ _ _ _)
        | exact triv (eqGuard_nil_constL _ _ _ _)
    case iface =>
      simp only [conc, Option.map_eq_some_iff] at hb
      obtain ⟨l, _, rfl⟩ := hb
      exact triv (eqGuard_nil_iface _ _ _ _ _ _)
  case agg =>
    simp only [conc, Option.map_eq_some_iff] at ha
    obtain ⟨l, _, rfl⟩ := ha
    cases b <;> simp only [Bool.false_eq_true] at h
    simp only [conc, Option.map_eq_some_iff] at hb
    obtain ⟨l', _, rfl⟩ := hb
    exact run_eqGuard_agg w op t x y _ _ (by simpa using h)
  case tuple => cases h
  case slice =>
    obtain ⟨p, _, _, rfl⟩ := conc_slice.1 ha
    exact triv (eqGuard_at_slice _ _ _ _ _ _ _ _)
  case func =>
    obtain ⟨_, _, _, _, rfl⟩ := conc_func.1 ha
    exact triv (eqGuard_at_func _ _ _ _ _ _ _ _)
  all_goals
    first
    | (simp only [conc, Option.some.injEq] at ha; subst ha)
    | (simp only [conc, Option.map_eq_some_iff] at ha; obtain ⟨_, _, rfl⟩ := ha)
    first
    | exact triv (eqGuard_at_bool _ _ _ _ _ _)
    | exact triv (eqGuard_at_int _ _ _ _ _ _ _)
    | exact triv (eqGuard_at_string _ _ _ _ _ _)
    | exact triv (eqGuard_at_pointer _ _ _ _ _ _)
    | exact triv (eqGuard_at_slice _ _ _ _ _ _ _ _)
    | exact triv (eqGuard_at_map _ _ _ _ _ _)
    | exact triv (eqGuard_at_nilFunc _ _ _ _ _)
    | exact triv (eqGuard_at_iface _ _ _ _ _ _ _)
def abin (P : Program) (op : BinOp) (t : TypeId) (x y : Operand) (a b : AV) : Option AV :=
  match a, b with
  | .int k m, .int k' n => bif ikeq k k' then
      match op with
      | .and => bif ikeq k .u64 then aand m n else none
      | .shr => bif ikeq k .u64 then ashr m n else none
      | _ => aArith op k m n
    else match op with
      | .shr => bif ikeq k .u64 then ashr m n else none
      | _ => none
  | .str l, .str l' => aStr op l l'
  | _, _ => match op with
    | .eql => bif aguard P t x y a b then
        match aeqIn P 20 t a b with
        | some r => some (.bool r)
        | none => none
      else none
    | .neq => bif aguard P t x y a b then
        match aeqIn P 20 t a b with
        | some r => some (.bool (!r))
        | none => none
      else none
    | _ => none
theorem binOp_eql_other {P : Program} {t : TypeId} {w : World} {M : Map} {a b : AV} {ca cb : Value} (ha : conc M a = some ca) (hb : conc M b = some cb) (hn : ∀ k m k' n, a = .int k m → b = .int k' n → False) (hs : ∀ l l', a = .str l → b = .str l' → False) {r : Bool}
    (h : aeqIn P 20 t a b = some r) : (binOp .eql t ca cb).run P w = .ok (.bool r) w ∧ (binOp .neq t ca cb).run P w = .ok (.bool (!r)) w := by
  have he : (Op.equal t ca cb).run P w = .ok r w := aeqIn_sound h ha hb 10000 (by omega)
  have key : binOp .eql t ca cb = (do pure (.bool (← Op.equal t ca cb))) ∧ binOp .neq t ca cb = (do pure (.bool (!(← Op.equal t ca cb)))) := by
    cases a
    case slice => obtain ⟨_, _, _, rfl⟩ := conc_slice.1 ha; exact ⟨rfl, rfl⟩
    case func => obtain ⟨_, _, _, _, rfl⟩ := conc_func.1 ha; exact ⟨rfl, rfl⟩
    case int k m =>
      simp only [conc, Option.some.injEq] at ha; subst ha
      cases b
      case int => exact (hn _ _ _ _ rfl rfl).elim
      case slice => obtain ⟨_, _, _, rfl⟩ := conc_slice.1 hb; exact ⟨rfl, rfl⟩
      case func => obtain ⟨_, _, _, _, rfl⟩ := conc_func.1 hb; exact ⟨rfl, rfl⟩
      all_goals
        first
        | (simp only [conc, Option.some.injEq] at hb; subst hb; exact ⟨rfl, rfl⟩)
        | (simp only [conc, Option.map_eq_some_iff] at hb; obtain ⟨_, _, rfl⟩ := hb; exact ⟨rfl, rfl⟩)
    case str l =>
      simp only [conc, Option.some.injEq] at ha; subst ha
      cases b
      case str => exact (hs _ _ rfl rfl).elim
      case slice => obtain ⟨_, _, _, rfl⟩ := conc_slice.1 hb; exact ⟨rfl, rfl⟩
      case func => obtain ⟨_, _, _, _, rfl⟩ := conc_func.1 hb; exact ⟨rfl, rfl⟩
      all_goals
        first
        | (simp only [conc, Option.some.injEq] at hb; subst hb; exact ⟨rfl, rfl⟩)
        | (simp only [conc, Option.map_eq_some_iff] at hb; obtain ⟨_, _, rfl⟩ := hb; exact ⟨rfl, rfl⟩)
    all_goals
      first
      | (simp only [conc, Option.some.injEq] at ha; subst ha; exact ⟨rfl, rfl⟩)
      | (simp only [conc, Option.map_eq_some_iff] at ha; obtain ⟨_, _, rfl⟩ := ha; exact ⟨rfl, rfl⟩)
  rw [key.1, key.2]
  simp [he]
theorem abin_sound {P : Program} {M : Map} {w : World} {op : BinOp} {t : TypeId} {x y : Operand} {a b v : AV} (h : abin P op t x y a b = some v) {ca cb : Value} (ha : conc M a = some ca) (hb : conc M b = some cb) :
    ∃ c, conc M v = some c ∧ (do eqGuard op t x y ca cb; binOp op t ca cb : Sem Value).run P w = .ok c w := by
  unfold abin at h
  split at h
  · rename_i k m k' n
    simp only [conc, Option.some.injEq] at ha hb
    subst ha hb
    have hg : (eqGuard op t x y (.int k m) (.int k' n)).run P w = .ok () w := by rw [eqGuard_at_int]; rfl
    have fin : ∀ {c : Value}, conc M v = some c → (binOp op t (.int k m) (.int k' n)).run P w = .ok c w → ∃ c, conc M v = some c ∧ (do eqGuard op t x y (.int k m) (.int k' n); binOp op t (.int k m) (.int k' n) : Sem Value).run P w = .ok c w :=
      fun h1 h2 => ⟨_, h1, by simp [hg, h2]⟩
    cases hk : ikeq k k' with
    | true =>
      simp only [hk, cond_true] at h
      have := ikeq_eq hk
      subst this
      split at h
      · rw [cond_some] at h
        have := ikeq_eq h.1
        subst this
        obtain ⟨c, h1, h2⟩ := aand_sound (P := P) (w := w) (t := t) h.2 M
        exact fin h1 h2
      · rw [cond_some] at h
        have := ikeq_eq h.1
        subst this
        obtain ⟨c, h1, h2⟩ := ashr_sound (P := P) (w := w) (t := t) (k' := .u64) h.2 M
        exact fin h1 h2
      · obtain ⟨c, h1, h2⟩ := aArith_sound (P := P) (w := w) (M := M) (t := t) h
        exact fin h1 h2
    | false =>
      simp only [hk, cond_false] at h
      split at h
      · rw [cond_some] at h
        have := ikeq_eq h.1
        subst this
        obtain ⟨c, h1, h2⟩ := ashr_sound (P := P) (w := w) (t := t) (k' := k') h.2 M
        exact fin h1 h2
      · cases h
  · rename_i l l'
    simp only [conc, Option.some.injEq] at ha hb
    subst ha hb
    obtain ⟨c, h1, h2⟩ := aStr_sound (P := P) (w := w) (M := M) (t := t) h
    exact ⟨c, h1, by simp [eqGuard_at_string, h2]⟩
  · rename_i hn hs
    have hn' : ∀ k m k' n, a = .int k m → b = .int k' n → False := fun k m k' n e1 e2 => hn k m k' n e1 e2
    have hs' : ∀ l l', a = .str l → b = .str l' → False := fun l l' e1 e2 => hs l l' e1 e2
    split at h
    · rw [cond_some] at h
      obtain ⟨hg, h⟩ := h
      split at h
      · rename_i r hr
        simp only [Option.some.injEq] at h
        subst h
        exact ⟨_, rfl, by simp [aguard_sound hg ha hb w, (binOp_eql_other (w := w) ha hb hn' hs' hr).1]⟩
      · cases h
    · rw [cond_some] at h
      obtain ⟨hg, h⟩ := h
      split at h
      · rename_i r hr
        simp only [Option.some.injEq] at h
        subst h
        exact ⟨_, rfl, by simp [aguard_sound hg ha hb w, (binOp_eql_other (w := w) ha hb hn' hs' hr).2]⟩
      · cases h
    · cases h
def aun (op : UnOp) (x : AV) : Option AV :=
  match op, x with
  | .neg, .int k n => bif inI k (0 - n) then some (.int k (0 - n)) else none
  | .not, .bool b => some (.bool (!b))
  | _, _ => none
theorem aun_sound {P : Program} {M : Map} {w : World} {op : UnOp} {x v : AV} (h : aun op x = some v) {cx : Value} (hx : conc M x = some cx) : ∃ c, conc M v = some c ∧ (Op.unary op cx).run P w = .ok c w := by
  unfold aun at h
  split at h
  · rw [cond_some] at h
    obtain ⟨h1, h2⟩ := h
    simp only [Option.some.injEq, conc] at h2 hx
    subst h2 hx
    exact ⟨_, rfl, by simp only [Op.unary, Op.intArith, inI_wrap h1, Sem.run_pure]⟩
  · simp only [Option.some.injEq, conc] at h hx
    subst h hx
    exact ⟨_, rfl, rfl⟩
  · cases h
def aconv (P : Program) (h : Heap) (src dst : TypeId) (x : AV) : Option AV :=
  match x with
  | .int _ n => match P.underlying src with
    | some _ => match P.underlying dst with
      | some (.int k) => bif inI k n then some (.int k n) else none
      | _ => none
    | none => none
  | .str s => match P.underlying src with
    | some .string => match P.underlying dst with
      | some .string => some (.str s)
      | _ => none
    | _ => none
  | .ptr i off => match P.underlying src with
    | some (.pointer t) => match P.underlying dst with
      | some .unsafePointer => match h.objs.get i with
        | some (.cells _ _ c _) => bif Nat.blt off c.length then bif (P.info? t).isSome then bif Nat.beq (P.cellsOf t) 0 then none else some (.ptr i off) else none else none
        | _ => none
      | _ => none
    | some .unsafePointer => match P.underlying dst with
      | some (.pointer u) => match h.objs.get i with
        | some (.cells e es c _) => bif Nat.beq e u then bif Nat.beq off 0 then bif Nat.ble es c.length then bif Nat.blt 0 P.depth then some (.ptr i off) else none else none else none else none
        | _ => none
      | _ => none
    | _ => none
  | _ => none
theorem HRel.cells {P : Program} {B : Nat} {w0 : World} {M : Map} {h : Heap} {w : World} (r : HRel P B w0 M h w) {i : Nat} {p : Loc} (hM : M i = some p) {e es : Nat} {c : List AV} {ex : Bool} (hg : h.objs.get i = some (.cells e es c ex)) :
    p.base = 0 ∧ P.cellsOf e = es ∧ (P.info? e).isSome = true ∧ 0 < es ∧ p.cap ≤ maxLen ∧ ∃ arr, w.heap[p.b]? = some (.cells arr e (0, 0)) ∧ arr.size = p.cap * es ∧ c.length ≤ arr.size ∧
      (ex = true → c.length = arr.size) ∧ ∀ (j : Nat) (a : AV), c[j]? = some a → ∃ x, conc M a = some x ∧ arr[j]? = some x := by
  have := (r.obj i p hM).2.2
  rw [hg] at this
  exact this
theorem rowAt_own {P : Program} {e : TypeId} {fits : TypeId → Bool} {d n count k : Nat} (hs : 0 < P.cellsOf e) (hf : fits e = true) (hk : k * P.cellsOf e / P.cellsOf e + n ≤ count) : rowAt P fits (d + 1) e count (k * P.cellsOf e) n = true := by
  have h0 : P.cellsOf e ≠ 0 := by omega
  simp only [rowAt, h0, if_false]
  simp [hf]
  left
  simpa using hk
theorem aconv_sound {P : Program} {B : Nat} {w0 : World} {M : Map} {h : Heap} {w : World} (r : HRel P B w0 M h w) {src dst : TypeId} {x v : AV} (ha : aconv P h src dst x = some v) {cx : Value} (hx : conc M x = some cx) :
    ∃ c, conc M v = some c ∧ (convert src dst cx).run P w = .ok c w := by
  unfold aconv at ha
  split at ha
  · rename_i k n
    simp only [conc, Option.some.injEq] at hx
    subst hx
    split at ha
    · rename_i d hs
      split at ha
      · rename_i k' hd
        rw [cond_some] at ha
        simp only [Option.some.injEq] at ha
        obtain ⟨h1, rfl⟩ := ha
        refine ⟨_, rfl, ?_⟩
        simp [convert, run_underlying hs, run_underlying hd, Conv.intToInt, inI_wrap h1]
      · cases ha
    · cases ha
  · rename_i s
    simp only [conc, Option.some.injEq] at hx
    subst hx
    split at ha
    · rename_i hs
      split at ha
      · rename_i hd
        simp only [Option.some.injEq] at ha
        subst ha
        exact ⟨_, rfl, by simp [convert, run_underlying hs, run_underlying hd]⟩
      · cases ha
    · cases ha
  · rename_i i off
    simp only [conc, Option.map_eq_some_iff] at hx
    obtain ⟨p, h1, rfl⟩ := hx
    split at ha
    · rename_i t hs
      split at ha
      · rename_i hd
        split at ha
        · rename_i e es c ex hg
          simp only [cond_some, cond_none, Option.some.injEq] at ha
          obtain ⟨g1, g2, g3, rfl⟩ := ha
          obtain ⟨p0, p1, p2, p3, p4, arr, p5, p6, p7, p8, p9⟩ := r.cells h1 hg
          have g1' : off < c.length := by simpa [blt_iff] using g1
          have g3' := Nat.ne_of_beq_eq_false g3
          refine ⟨_, by simp only [conc, h1]; rfl, ?_⟩
          have hsh : w.shape? p.b = some (e, arr.size) := by simp [World.shape?, p5]
          have hno : ¬ (arr.size ≤ p.base + off) := by omega
          simp [convert, run_underlying hs, run_underlying hd, Conv.unsafePointer, Conv.seenAt, viewAt, hsh, cellsIn, run_sizeOf' g2, g3', hno]
        · cases ha
      · cases ha
    · rename_i hs
      split at ha
      · rename_i u hd
        split at ha
        · rename_i e es c ex hg
          simp only [cond_some, Option.some.injEq] at ha
          obtain ⟨g1, g2, g3, g4, rfl⟩ := ha
          obtain ⟨p0, p1, p2, p3, p4, arr, p5, p6, p7, p8, p9⟩ := r.cells h1 hg
          have := Nat.eq_of_beq_eq_true g1
          subst this
          have := Nat.eq_of_beq_eq_true g2
          subst this
          have g3' : es ≤ c.length := by simpa using g3
          have g4' : 0 < P.depth := by simpa [blt_iff] using g4
          obtain ⟨d, hdep⟩ : ∃ d, P.depth = d + 1 := ⟨P.depth - 1, by omega⟩
          refine ⟨_, by simp only [conc, h1]; rfl, ?_⟩
          have hsh : w.shape? p.b = some (e, arr.size) := by simp [World.shape?, p5]
          have hcap : 1 ≤ p.cap := by
            rcases Nat.eq_zero_or_pos p.cap with h0 | h0
            · rw [h0] at p6; omega
            · exact h0
          have hcnt : arr.size / P.cellsOf e = p.cap := by rw [p6, p1]; exact Nat.mul_div_cancel _ (by omega)
          have hlies : liesAt P P.depth e (arr.size / P.cellsOf e) (p.base + 0) e 1 = true := by
            rw [hdep, hcnt, p0]
            unfold liesAt
            have := rowAt_own (P := P) (d := d) (e := e) (fits := fun x => sameLayout P (d + 1) x e) (n := 1) (count := p.cap) (k := 0) (by omega) (by simp [sameLayout]) (by simp; omega)
            rw [hdep]
            simp only [Nat.zero_mul, Nat.add_zero] at this ⊢
            simp [this]
          have hv : (variablesAt ⟨p.b, p.base + 0, none⟩ e 1).run P w = .ok true w := by
            rw [Nat.add_zero] at hlies ⊢
            simp [variablesAt, hsh, hlies]
          have h0 : P.cellsOf e ≠ 0 := by omega
          simp [convert, run_underlying hs, run_underlying hd, Conv.unsafePointer, Conv.seenAt, viewAt, hsh, run_sizeOf' p2, h0]
          have hv' : (variablesAt ⟨p.b, p.base, none⟩ e 1).run P w = .ok true w := by simpa using hv
          simp [hv']
        · cases ha
      · cases ha
    · cases ha
  · cases ha
end Go.Am
namespace Go.Am
open Go Go.RowKit
def arange (P : Program) (h : Heap) (t : TypeId) (x : AV) : Option (AV × Heap) :=
  match P.underlying t with
  | some .string => match x with
    | .str s => match h.add (.iter s 0) with
      | some (i, h') => some (.ptr i 0, h')
      | none => none
    | _ => none
  | _ => none
theorem arange_sound {P : Program} {B : Nat} {w0 : World} {M : Map} {h h' : Heap} {w : World} (r : HRel P B w0 M h w) {t : TypeId} {x v : AV} (ha : arange P h t x = some (v, h')) {cx : Value} (hx : conc M x = some cx) :
    ∃ c w' M', (Instr.range t cx).run P w = .ok c w' ∧ Grow h h' M M' ∧ conc M' v = some c ∧ HRel P B w0 M' h' w' := by
  unfold arange at ha
  split at ha
  · rename_i hu
    split at ha
    · rename_i s
      split at ha
      · rename_i i h'' hadd
        simp only [Option.some.injEq, Prod.mk.injEq] at ha
        obtain ⟨rfl, rfl⟩ := ha
        simp only [conc, Option.some.injEq] at hx
        subst hx
        obtain ⟨_, h2, h3⟩ := r.add hadd (co := .stringIter ⟨s.toArray⟩ 0) (cap := 0) ⟨rfl, rfl⟩
        exact ⟨.pointer (some ⟨w.heap.size, 0, none⟩), _, _, by simp [Instr.range, run_underlying hu], h2, by simp [conc, Map.put_self], h3⟩
      · cases ha
    · cases ha
  · cases ha
def anext (h : Heap) (x : AV) (isString : Bool) : Option (AV × Heap) :=
  match x with
  | .ptr i off => bif isString then bif Nat.beq off 0 then
      match h.objs.get i with
      | some (.iter s pos) => match lget s pos with
        | some b => bif Nat.blt b.toNat 128 then
            match h.put i (some (.iter s (pos + 1))) with
            | some h' => some (.tuple [.bool true, .int .i64 (.ofNat pos), .int .i32 (.ofNat b.toNat)], h')
            | none => none
          else none
        | none => bif Nat.ble s.length pos then some (.tuple [.bool false], h) else none
      | _ => none
    else none else none
  | _ => none
theorem anext_sound {P : Program} {B : Nat} {w0 : World} {M : Map} {h h' : Heap} {w : World} (r : HRel P B w0 M h w) {x v : AV} {b : Bool} (ha : anext h x b = some (v, h')) {cx : Value} (hx : conc M x = some cx) (t : TypeId) :
    ∃ c w', (Instr.next cx b t).run P w = .ok c w' ∧ conc M v = some c ∧ HRel P B w0 M h' w' ∧ h'.next = h.next := by
  unfold anext at ha
  split at ha
  · rename_i i off
    simp only [cond_some] at ha
    obtain ⟨hb, h0, ha⟩ := ha
    have := Nat.eq_of_beq_eq_true h0
    subst this
    simp only [conc, Option.map_eq_some_iff] at hx
    obtain ⟨p, h1, rfl⟩ := hx
    split at ha
    · rename_i s pos hg
      have ho := (r.obj i p h1).2.2
      rw [hg] at ho
      obtain ⟨hb0, hheap⟩ := ho
      have hsz : (⟨s.toArray⟩ : ByteArray).size = s.length := by simp [ByteArray.size]
      have hlt : p.b < w.heap.size := (r.obj i p h1).2.1
      have hget : (getObj p.b).run P w = .ok (.stringIter ⟨s.toArray⟩ pos) w := by simp [getObj, Sem.run, hheap]
      rw [hb0]
      split at ha
      · rename_i bb hbb
        rw [cond_some] at ha
        obtain ⟨hasc, ha⟩ := ha
        split at ha
        · rename_i h'' hput
          simp only [Option.some.injEq, Prod.mk.injEq] at ha
          obtain ⟨rfl, rfl⟩ := ha
          rw [lget_eq] at hbb
          have hl : pos < s.length := (List.getElem?_eq_some_iff.1 hbb).1
          have hl' : pos < (⟨s.toArray⟩ : ByteArray).size := by omega
          have hbv : (⟨s.toArray⟩ : ByteArray)[pos] = bb := by
            have := (List.getElem?_eq_some_iff.1 hbb).2
            simpa [ByteArray.getElem_eq_getElem_data] using this
          have hasc' : bb.toNat < 128 := by simpa [blt_iff] using hasc
          have hdec := decode_ascii ⟨s.toArray⟩ pos hl' (by rw [hbv]; exact hasc')
          rw [hbv] at hdec
          have hset : (setObj p.b (.stringIter ⟨s.toArray⟩ (pos + 1))).run P w = .ok () { w with heap := w.heap.setIfInBounds p.b (.stringIter ⟨s.toArray⟩ (pos + 1)) } := by simp [setObj, Sem.run, hheap]
          refine ⟨_, _, ?_, by simp [conc, concs]; rfl, r.write h1 hg rfl hput (w' := { w with heap := w.heap.setIfInBounds p.b (.stringIter ⟨s.toArray⟩ (pos + 1)) }) (co := .stringIter ⟨s.toArray⟩ (pos + 1)) (by simp [hlt]) (fun k hk => by simp [Array.getElem?_setIfInBounds_ne (Ne.symm hk)]) (by simp) rfl rfl rfl ⟨hb0, rfl⟩, Heap.next_put hput⟩
          subst hb
          simp only [Instr.next, Sem.run_bind, hget, Result.andThen_ok]
          rw [if_pos hl']
          simp only [hdec, Sem.run_bind, hset, Result.andThen_ok, Sem.run_pure]
          rfl
        · cases ha
      · rename_i hbb
        rw [cond_some] at ha
        obtain ⟨hle, ha⟩ := ha
        simp only [Option.some.injEq, Prod.mk.injEq] at ha
        obtain ⟨rfl, rfl⟩ := ha
        have hle' : s.length ≤ pos := by simpa using hle
        refine ⟨.tuple #[.bool false], w, ?_, by simp [conc, concs], r, rfl⟩
        subst hb
        simp only [Instr.next, Sem.run_bind, hget, Result.andThen_ok]
        rw [if_neg (by omega)]
        rfl
    · cases ha
  · cases ha
def aextract (x : AV) (i : Nat) : Option AV :=
  match x with
  | .tuple l => lget l i
  | _ => none
theorem aextract_sound {P : Program} {M : Map} {w : World} {x v : AV} {i : Nat} (h : aextract x i = some v) {cx : Value} (hx : conc M x = some cx) : ∃ c, conc M v = some c ∧ (Instr.extract cx i).run P w = .ok c w := by
  unfold aextract at h
  split at h
  · rename_i l
    rw [lget_eq] at h
    simp only [conc, Option.map_eq_some_iff] at hx
    obtain ⟨cl, h1, rfl⟩ := hx
    obtain ⟨c, h2, h3⟩ := concs_get h1 h
    exact ⟨c, h3, by simp [Instr.extract, h2]⟩
  · cases h
def amax (x y : AV) : Option AV :=
  match x, y with
  | .int k a, .int _ b => some (.int k (bif ilt a b then b else a))
  | _, _ => none
def amin (x y : AV) : Option AV :=
  match x, y with
  | .int k a, .int _ b => some (.int k (bif ilt b a then b else a))
  | _, _ => none
theorem amax_sound {P : Program} {M : Map} {w : World} {x y v : AV} (h : amax x y = some v) {cx cy : Value} (hx : conc M x = some cx) (hy : conc M y = some cy) (ts : Array TypeId) (t : TypeId) :
    ∃ c, conc M v = some c ∧ (Builtin.max_ ts t #[cx, cy]).run P w = .ok c w := by
  unfold amax at h
  split at h
  · rename_i k a k' b
    simp only [Option.some.injEq, conc] at h hx hy
    subst h hx hy
    refine ⟨_, rfl, ?_⟩
    rw [ilt_iff]
    by_cases hab : a < b <;> simp [Builtin.max_, Builtin.max2, hab]
  · cases h
theorem amin_sound {P : Program} {M : Map} {w : World} {x y v : AV} (h : amin x y = some v) {cx cy : Value} (hx : conc M x = some cx) (hy : conc M y = some cy) (ts : Array TypeId) (t : TypeId) :
    ∃ c, conc M v = some c ∧ (Builtin.min_ ts t #[cx, cy]).run P w = .ok c w := by
  unfold amin at h
  split at h
  · rename_i k a k' b
    simp only [Option.some.injEq, conc] at h hx hy
    subst h hx hy
    refine ⟨_, rfl, ?_⟩
    rw [ilt_iff]
    by_cases hab : b < a <;> simp [Builtin.min_, Builtin.min2, hab]
  · cases h
def asliceData (x : AV) : Option AV :=
  match x with
  | .nilslice => some .nilptr
  | .slice i k len es => bif Nat.blt 0 len then some (.ptr i (k * es)) else none
  | _ => none
theorem asliceData_sound {P : Program} {M : Map} {w : World} {x v : AV} (h : asliceData x = some v) {cx : Value} (hx : conc M x = some cx) (ts : Array TypeId) (t : TypeId) :
    ∃ c, conc M v = some c ∧ (Builtin.unsafeSliceData_ ts t #[cx]).run P w = .ok c w := by
  unfold asliceData at h
  split at h
  · simp only [Option.some.injEq, conc] at h hx
    subst h hx
    exact ⟨_, rfl, rfl⟩
  · rename_i i k len es
    rw [cond_some] at h
    obtain ⟨h1, h2⟩ := h
    simp only [Option.some.injEq] at h2
    subst h2
    obtain ⟨p, h3, h4, rfl⟩ := conc_slice.1 hx
    have h1' : 0 < len := by simpa [blt_iff] using h1
    have hc : p.cap - k ≠ 0 := by omega
    refine ⟨.pointer (some ⟨p.b, p.base + k * es, none⟩), by simp [conc, h3], ?_⟩
    exact Lib.run_unsafeSliceData_row w ts t _ len _ hc
  · cases h
def bytesOf : List AV → Option (List UInt8)
  | [] => some []
  | .int .u8 (.ofNat n) :: l => match bytesOf l with
    | some r => bif Nat.blt n 256 then some (UInt8.ofNat n :: r) else none
    | none => none
  | _ => none
theorem bytesOf_cells' {M : Map} : ∀ {l : List AV} {bs : List UInt8} {cl : List Value}, bytesOf l = some bs → concs M l = some cl → bs.length = l.length ∧ ∀ (j : Nat) (x : UInt8), bs[j]? = some x → cl[j]? = some (.int .u8 x.toNat)
  | [], bs, cl, h, hc => by
    simp only [bytesOf, Option.some.injEq] at h
    subst h
    exact ⟨rfl, fun j x hx => by simp at hx⟩
  | x :: l, bs, cl, h, hc => by
    unfold bytesOf at h
    split at h
    · cases ‹_ :: _ = []›
    · rename_i n l' heq
      simp only [List.cons.injEq] at heq
      obtain ⟨rfl, rfl⟩ := heq
      split at h
      · rename_i r hr
        rw [cond_some] at h
        obtain ⟨hn, h⟩ := h
        simp only [Option.some.injEq] at h
        subst h
        obtain ⟨y, ys, rfl, h1, h2⟩ := concs_cons.1 hc
        simp only [conc, Option.some.injEq] at h1
        subst h1
        obtain ⟨g1, g2⟩ := bytesOf_cells' hr h2
        refine ⟨by simp [g1], fun j x hx => ?_⟩
        cases j with
        | zero =>
          simp only [List.getElem?_cons_zero, Option.some.injEq] at hx ⊢
          subst hx
          have : n < 256 := by simpa [blt_iff] using hn
          simp [UInt8.toNat_ofNat', Nat.mod_eq_of_lt this]
        | succ j => exact g2 j x (by simpa using hx)
      · cases h
    · cases h
def aunsafeString (P : Program) (h : Heap) (pt : TypeId) (x n : AV) : Option (AV × Heap) :=
  match n with
  | .int .i64 m => match natOf m with
    | some m => match x with
      | .nilptr => bif Nat.beq m 0 then some (.str [], h) else none
      | .ptr i off => bif Nat.beq m 0 then some (.str [], h) else bif Nat.beq off 0 then
        match P.underlying pt with
        | some (.pointer e) => match h.objs.get i with
          | some (.cells e' es c _) => bif Nat.beq e' e then bif Nat.beq es 1 then bif Nat.ble m 1000000 then
              match takeN m c with
              | some l => match bytesOf l with
                | some bs => match h.put i none with
                  | some h' => some (.str bs, h')
                  | none => none
                | none => none
              | none => none
            else none else none else none
          | _ => none
        | _ => none
        else none
      | _ => none
    | none => none
  | _ => none
theorem aunsafeString_sound {P : Program} {B : Nat} {w0 : World} {M : Map} {h h' : Heap} {w : World} (r : HRel P B w0 M h w) {pt : TypeId} {x n v : AV} (ha : aunsafeString P h pt x n = some (v, h')) {cx cn : Value} (hx : conc M x = some cx) (hn : conc M n = some cn)
    (t' t : TypeId) : ∃ c w', (Builtin.unsafeString_ #[pt, t'] t #[cx, cn]).run P w = .ok c w' ∧ conc M v = some c ∧ HRel P B w0 M h' w' ∧ h'.next = h.next := by
  unfold aunsafeString at ha
  split at ha
  · rename_i m0
    split at ha
    · rename_i m hm
      have := natOf_spec hm
      subst this
      simp only [conc, Option.some.injEq] at hn
      subst hn
      split at ha
      · rw [cond_some] at ha
        obtain ⟨h0, ha⟩ := ha
        simp only [Option.some.injEq, Prod.mk.injEq] at ha
        obtain ⟨rfl, rfl⟩ := ha
        have := Nat.eq_of_beq_eq_true h0
        subst this
        simp only [conc, Option.some.injEq] at hx
        subst hx
        exact ⟨.string .empty, w, Lib.run_unsafeString_none w pt t' t none, rfl, r, rfl⟩
      · rename_i i off
        simp only [conc, Option.map_eq_some_iff] at hx
        obtain ⟨p, h1, rfl⟩ := hx
        cases h0 : Nat.beq m 0 with
        | true =>
          simp only [h0, cond_true, Option.some.injEq, Prod.mk.injEq] at ha
          obtain ⟨rfl, rfl⟩ := ha
          have := Nat.eq_of_beq_eq_true h0
          subst this
          exact ⟨.string .empty, w, Lib.run_unsafeString_none w pt t' t _, rfl, r, rfl⟩
        | false =>
          have hm0 := Nat.ne_of_beq_eq_false h0
          simp only [h0, cond_false, cond_some] at ha
          obtain ⟨hof, ha⟩ := ha
          have := Nat.eq_of_beq_eq_true hof
          subst this
          split at ha
          · rename_i e hu
            split at ha
            · rename_i e' es c ex hg
              simp only [cond_some] at ha
              obtain ⟨g1, g2, g4, ha⟩ := ha
              have := Nat.eq_of_beq_eq_true g1
              subst this
              have := Nat.eq_of_beq_eq_true g2
              subst this
              have g4' : m ≤ 1000000 := by simpa using g4
              split at ha
              · rename_i l hl
                split at ha
                · rename_i bs hbs
                  split at ha
                  · rename_i h'' hput
                    simp only [Option.some.injEq, Prod.mk.injEq] at ha
                    obtain ⟨rfl, rfl⟩ := ha
                    obtain ⟨p0, p1, p2, p3, p4, arr, p5, p6, p7, p8, p9⟩ := r.cells h1 hg
                    obtain ⟨s1, s2⟩ := takeN_spec hl
                    have hoff : m ≤ c.length := by
                      have : l.length = min m c.length := by rw [s1]; simp
                      omega
                    obtain ⟨cl, k1, k2, k3⟩ := cells_of (off := 0) p9 (by simpa using hl)
                    have hll := concs_length k1
                    obtain ⟨q1, q2⟩ := bytesOf_cells' hbs k1
                    rw [p0, Nat.zero_add]
                    have hbm : bs.length = m := by omega
                    have hcells : ∀ (j : Nat) (x : UInt8), bs[j]? = some x → w.cell? ((⟨p.b, 0, none⟩ : Addr).add j) = some (.int .u8 x.toNat) := fun j x hj => by
                      rw [Addr.add_lit, cell?_eq, p5]
                      exact k3 j _ (q2 j x hj)
                    have hsh : w.shape? p.b = some (e', arr.size) := by simp [World.shape?, p5]
                    have hrun := Lib.run_unsafeString_row (P := P) w pt t' t e' hu p1 p.b arr.size hsh bs (by intro h; subst h; exact hm0 hbm.symm) (by omega) (by omega) hcells
                    rw [hbm] at hrun
                    refine ⟨.string ⟨bs.toArray⟩, w.freeze ⟨p.b, 0, none⟩ m, hrun, rfl, r.spoil h1 hg rfl hput (fun k hk => ?_) ?_ ?_ ?_ ?_, Heap.next_put hput⟩
                    · simp only [World.freeze, hm0, if_false]
                      rw [Array.getElem?_modify, if_neg (Ne.symm hk)]
                    · simp [World.freeze, hm0]
                    · simp [World.freeze, hm0]
                    · simp [World.freeze, hm0]
                    · simp [World.freeze, hm0]
                  · cases ha
                · cases ha
              · cases ha
            · cases ha
          · cases ha
      · cases ha
    · cases ha
  · cases ha
end Go.Am
namespace Go.Am
open Go Go.RowKit
abbrev Ev := Operand → Option AV
def GRel (M : Map) (g : Ev) (a : Act) : Prop := ∀ x v, g x = some v → conc M v = some (a.eval x)
theorem ERel.ev {M : Map} {n : Nat} {env : Env} {a : Act} (r : ERel M n env a) : GRel M (aeval env) a := fun _ _ h => aeval_sound r h
def aevals (env : Ev) : List Operand → Option (List AV)
  | [] => some []
  | x :: xs => match env x with
    | some v => match aevals env xs with
      | some vs => some (v :: vs)
      | none => none
    | none => none
theorem aevals_sound {M : Map} {env : Ev} {a : Act} (r : GRel M env a) : ∀ {xs : List Operand} {vs : List AV}, aevals env xs = some vs → concs M vs = some (xs.map a.eval)
  | [], vs, h => by simp [aevals] at h; subst h; rfl
  | x :: xs, vs, h => by
    simp only [aevals] at h
    split at h
    · rename_i v hv
      split at h
      · rename_i vs' hvs
        simp only [Option.some.injEq] at h
        subst h
        exact concs_cons.2 ⟨_, _, rfl, r _ _ hv, aevals_sound r hvs⟩
      · cases h
    · cases h
def aparts (env : Ev) : List (Nat × Operand) → Option (List (Nat × AV))
  | [] => some []
  | (i, x) :: xs => match env x with
    | some v => match aparts env xs with
      | some vs => some ((i, v) :: vs)
      | none => none
    | none => none
theorem aparts_sound {M : Map} {env : Ev} {a : Act} (r : GRel M env a) : ∀ {xs : List (Nat × Operand)} {vs : List (Nat × AV)}, aparts env xs = some vs → PRel M vs (xs.map fun p => (p.1, a.eval p.2))
  | [], vs, h => by simp [aparts] at h; subst h; rfl
  | (i, x) :: xs, vs, h => by
    simp only [aparts] at h
    split at h
    · rename_i v hv
      split at h
      · rename_i vs' hvs
        simp only [Option.some.injEq] at h
        subst h
        exact ⟨_, _, rfl, r _ _ hv, aparts_sound r hvs⟩
      · cases h
    · cases h
def aopt (env : Ev) : Option Operand → Option (Option AV)
  | none => some none
  | some x => match env x with
    | some v => some (some v)
    | none => none
theorem aopt_sound {M : Map} {env : Ev} {a : Act} (r : GRel M env a) {x : Option Operand} {v : Option AV} (h : aopt env x = some v) :
    (∀ y, v = some y → ∃ c, x.map a.eval = some c ∧ conc M y = some c) ∧ (v = none → x.map a.eval = none) := by
  cases x with
  | none => simp [aopt] at h; subst h; simp
  | some o =>
    simp only [aopt] at h
    split at h
    · rename_i y hy
      simp only [Option.some.injEq] at h
      subst h
      exact ⟨fun z hz => by simp only [Option.some.injEq] at hz; subst hz; exact ⟨_, rfl, r _ _ hy⟩, fun h => by cases h⟩
    · cases h
structure FInfo where
  code : Code
  ntmps : Nat
  results : List ResultVar
def finfo (P : Program) (g : FuncId) : Option FInfo :=
  match P.funcs[g]? with
  | some fn => match fn.body with
    | some c => bif fn.name == "runtime.NumGoroutine" then none else some ⟨c, fn.ntmps, fn.results.toList⟩
    | none => none
  | none => none
def aval (o : Option AV) (h : Heap) : Option (ANext × Heap) :=
  match o with
  | some v => some (.val v, h)
  | none => none
def avalh (o : Option (AV × Heap)) : Option (ANext × Heap) :=
  match o with
  | some (v, h) => some (.val v, h)
  | none => none
def askip (o : Option Heap) : Option (ANext × Heap) :=
  match o with
  | some h => some (.skip, h)
  | none => none
def b1 {α : Type} (env : Ev) (x : Operand) (k : AV → Option α) : Option α :=
  match env x with
  | some v => k v
  | none => none
theorem b1_eq {α : Type} {env : Ev} {x : Operand} {k : AV → Option α} {r : α} (h : b1 env x k = some r) : ∃ v, env x = some v ∧ k v = some r := by
  unfold b1 at h
  split at h
  · exact ⟨_, by assumption, h⟩
  · cases h
theorem aval_eq {o : Option AV} {h h' : Heap} {n : ANext} (e : aval o h = some (n, h')) : ∃ v, o = some v ∧ n = .val v ∧ h' = h := by
  unfold aval at e
  split at e
  · simp only [Option.some.injEq, Prod.mk.injEq] at e; exact ⟨_, rfl, e.1.symm, e.2.symm⟩
  · cases e
theorem avalh_eq {o : Option (AV × Heap)} {h' : Heap} {n : ANext} (e : avalh o = some (n, h')) : ∃ v, o = some (v, h') ∧ n = .val v := by
  unfold avalh at e
  split at e
  · simp only [Option.some.injEq, Prod.mk.injEq] at e; obtain ⟨e1, rfl⟩ := e; exact ⟨_, rfl, e1.symm⟩
  · cases e
theorem askip_eq {o : Option Heap} {h' : Heap} {n : ANext} (e : askip o = some (n, h')) : o = some h' ∧ n = .skip := by
  unfold askip at e
  split at e
  · simp only [Option.some.injEq, Prod.mk.injEq] at e; obtain ⟨e1, rfl⟩ := e; exact ⟨rfl, e1.symm⟩
  · cases e
def anil (x : AV) : Option AV :=
  match x with
  | .ptr _ _ => some x
  | .func (.func _) _ _ => some x
  | .map _ => some x
  | _ => none
def abuiltin (P : Program) (b : Builtin) (ts : List TypeId) (args : List AV) (h : Heap) : Option (ANext × Heap) :=
  match b, ts, args with
  | .len, [t], [x] => aval (alen P h t x) h
  | .append, [t, u], [s, x] => avalh (aappend P h t u s x)
  | .max, _, [x, y] => aval (amax x y) h
  | .min, _, [x, y] => aval (amin x y) h
  | .unsafeSliceData, _, [x] => aval (asliceData x) h
  | .unsafeString, [t, _], [x, n] => avalh (aunsafeString P h t x n)
  | _, _, _ => none
def aop (P : Program) (ext : FuncId → Bool) (o : Oper) (env : Ev) (h : Heap) : Option (ANext × Heap) :=
  match o.op with
  | .move x | .assign x => aval (env x) h
  | .pick c a b => b1 env c fun c => match c with
    | .bool true => aval (env a) h
    | .bool false => aval (env b) h
    | _ => none
  | .alloc t => match azero P t with
    | some z => match anew P h t z.cells true with
      | some (i, h') => some (.val (.ptr i 0), h')
      | none => none
    | none => none
  | .box t x => b1 env x fun v => match anew P h t v.cells true with
      | some (i, h') => some (.val (.ptr i 0), h')
      | none => none
  | .build t parts => match aparts env parts.toList with
    | some ps => aval (abuild P t ps) h
    | none => none
  | .buildSlice t len parts => match aparts env parts.toList with
    | some ps => avalh (abuildSlice P h t len ps)
    | none => none
  | .load t a => b1 env a fun a => match a with
    | .ptr i off => aval (aload P h t i off) h
    | _ => none
  | .store t a x => b1 env a fun a => match a with
    | .ptr i off => b1 env x fun v => askip (astore P h t i off v)
    | _ => none
  | .nilCheck x => b1 env x fun v => aval (anil v) h
  | .binOp op t x y _ => b1 env x fun a => b1 env y fun b => aval (abin P op t x y a b) h
  | .unOp op _ x => b1 env x fun a => aval (aun op a) h
  | .convert s d x => b1 env x fun a => aval (aconv P h s d a) h
  | .makeInterface t x => b1 env x fun a => bif P.concrete t then some (.val (.iface t a), h) else none
  | .makeFunc fn first captured => match aevals env first.toList with
    | some f => match aevals env captured.toList with
      | some c => some (.val (.func fn f c), h)
      | none => none
    | none => none
  | .makeMap _ none => avalh (amakeMap h)
  | .slice t x lo hi none => b1 env x fun a => match aopt env lo with
    | some l => match aopt env hi with
      | some u => aval (aslice P t a l u) h
      | none => none
    | none => none
  | .fieldAddr t x f => b1 env x fun a => aval (afieldAddr P t a f) h
  | .field t x f => b1 env x fun a => aval (afield P t a f) h
  | .indexAddr t x i => b1 env x fun a => b1 env i fun j => aval (aindexAddr P t a j) h
  | .index t x i => b1 env x fun a => b1 env i fun j => aval (aindex P t a j) h
  | .lookup t x k ok => b1 env x fun a => b1 env k fun j => aval (alookup P h t a j ok) h
  | .mapUpdate t m k x | .insert t m k x => b1 env m fun m => b1 env k fun k => b1 env x fun v => askip (aupdate P h t m k v)
  | .range t x => b1 env x fun a => avalh (arange P h t a)
  | .next it s => b1 env it fun a => avalh (anext h a s)
  | .extract x i => b1 env x fun a => aval (aextract a i) h
  | .call c => match c.callee with
    | .value f => b1 env f fun fv => match fv with
      | .func (.func g) first captured => match aevals env c.args.toList with
        | some args => match finfo P g with
          | some _ => some (.enter g (first ++ args ++ captured), h)
          | none => bif ext g then match first, args, captured with
            | [], [x], [] => some (.val x, h)
            | _, _, _ => none
            else none
        | none => none
      | _ => none
    | .builtin b => match aevals env c.args.toList with
      | some args => abuiltin P b c.argTypes.toList args h
      | none => none
    | _ => none
  | _ => none
theorem callFunc_body {P : Program} {g : FuncId} {fi : FInfo} (h : finfo P g = some fi) (args : Array Value) (w : World) : (callFunc g args).run P w = .ok (.enter g args) w := by
  unfold finfo at h
  split at h
  · rename_i fn hf
    split at h
    · rename_i c hb
      rw [cond_none] at h
      have hn : ¬ fn.name = "runtime.NumGoroutine" := by simpa using h.1
      simp [callFunc, hf, hn, hb]
    · cases h
  · cases h
def ExtOk (P : Program) (ext : FuncId → Bool) : Prop := ∀ g, ext g = true → ∀ x w, (callFunc g #[x]).run P w = .ok (.value x) w
theorem aop_sound {P : Program} {ext : FuncId → Bool} (hext : ExtOk P ext) {o : Oper} {env : Ev} {h h' : Heap} {n : ANext} (ha : aop P ext o env h = some (n, h')) {B : Nat} {w0 w : World} {M : Map} (r : HRel P B w0 M h w) {a : Act} (re : GRel M env a) :
    Runs P B w0 M h w (execOp a.eval o) n h' := by
  unfold aop at ha
  split at ha
  case h_1 x hop =>
    obtain ⟨v, h1, rfl, rfl⟩ := aval_eq ha
    exact .pure r (re _ _ h1) (by simp [execOp, hop])
  case h_2 x hop =>
    obtain ⟨v, h1, rfl, rfl⟩ := aval_eq ha
    exact .pure r (re _ _ h1) (by simp [execOp, hop])
  case h_3 c x y hop =>
    obtain ⟨cv, h1, ha⟩ := b1_eq ha
    have hc := re _ _ h1
    split at ha
    · obtain ⟨v, h2, rfl, rfl⟩ := aval_eq ha
      simp only [conc, Option.some.injEq] at hc
      exact .pure r (re _ _ h2) (by simp [execOp, hop, ← hc, asBool])
    · obtain ⟨v, h2, rfl, rfl⟩ := aval_eq ha
      simp only [conc, Option.some.injEq] at hc
      exact .pure r (re _ _ h2) (by simp [execOp, hop, ← hc, asBool])
    · cases ha
  case h_4 t hop =>
    split at ha
    · rename_i z hz
      split at ha
      · rename_i i h'' hnew
        simp only [Option.some.injEq, Prod.mk.injEq] at ha
        obtain ⟨rfl, rfl⟩ := ha
        obtain ⟨c, w', M', k1, k2, k3, k4⟩ := alloc_sound r hz hnew
        exact ⟨.value c, w', M', by simp [execOp, hop, k1], k2, ⟨c, k3, rfl⟩, k4⟩
      · cases ha
    · cases ha
  case h_5 t x hop =>
    obtain ⟨v, h1, ha⟩ := b1_eq ha
    split at ha
    · rename_i i h'' hnew
      simp only [Option.some.injEq, Prod.mk.injEq] at ha
      obtain ⟨rfl, rfl⟩ := ha
      obtain ⟨c, w', M', k1, k2, k3, k4⟩ := box_sound r hnew (re _ _ h1)
      exact ⟨.value c, w', M', by simp [execOp, hop, k1], k2, ⟨c, k3, rfl⟩, k4⟩
    · cases ha
  case h_6 t parts hop =>
    split at ha
    · rename_i ps hps
      obtain ⟨v, h1, rfl, rfl⟩ := aval_eq ha
      obtain ⟨c, k1, k2⟩ := abuild_sound (w := w) h1 (aparts_sound re hps)
      refine .pure r k1 ?_
      have e : (parts.map fun p => (p.1, a.eval p.2)) = (parts.toList.map fun p => (p.1, a.eval p.2)).toArray := by apply Array.ext'; simp
      simp only [execOp, hop]
      rw [e]
      simp [k2]
    · cases ha
  case h_7 t len parts hop =>
    split at ha
    · rename_i ps hps
      obtain ⟨v, h1, rfl⟩ := avalh_eq ha
      obtain ⟨c, w', M', k1, k2, k3, k4⟩ := abuildSlice_sound r h1 (aparts_sound re hps)
      refine ⟨.value c, w', M', ?_, k2, ⟨c, k3, rfl⟩, k4⟩
      have e : (parts.map fun p => (p.1, a.eval p.2)) = (parts.toList.map fun p => (p.1, a.eval p.2)).toArray := by apply Array.ext'; simp
      simp only [execOp, hop]
      rw [e]
      simp [k1]
    · cases ha
  case h_8 t x hop =>
    obtain ⟨v, h1, ha⟩ := b1_eq ha
    have hx := re _ _ h1
    split at ha
    · rename_i i off
      obtain ⟨v', h2, rfl, rfl⟩ := aval_eq ha
      obtain ⟨p, k1, k2, _⟩ := r.ptr hx
      obtain ⟨c, k3, k4⟩ := aload_sound r h2 k1
      exact .pure r k3 (by simp [execOp, hop, k2, Instr.loadAt, Instr.sureAddr, k4])
    · cases ha
  case h_9 t x y hop =>
    obtain ⟨v, h1, ha⟩ := b1_eq ha
    have hx := re _ _ h1
    split at ha
    · rename_i i off
      obtain ⟨u, h2, ha⟩ := b1_eq ha
      obtain ⟨h3, rfl⟩ := askip_eq ha
      obtain ⟨p, k1, k2, _⟩ := r.ptr hx
      obtain ⟨w', k3, k4, k5⟩ := astore_sound r h3 k1 (re _ _ h2)
      exact ⟨.skip, w', M, by simp [execOp, hop, k2, Instr.storeAt, Instr.sureAddr, k3], Grow.same M k5, rfl, k4⟩
    · cases ha
  case h_10 x hop =>
    obtain ⟨v, h1, ha⟩ := b1_eq ha
    obtain ⟨v', h2, rfl, rfl⟩ := aval_eq ha
    have hx := re _ _ h1
    unfold anil at h2
    split at h2
    · simp only [Option.some.injEq] at h2
      subst h2
      obtain ⟨p, k1, k2, _⟩ := r.ptr hx
      exact .pure r hx (by simp [execOp, hop, k2])
    · simp only [Option.some.injEq] at h2
      subst h2
      obtain ⟨l, l', _, _, k2⟩ := conc_func.1 hx
      exact .pure r hx (by simp [execOp, hop, k2])
    · simp only [Option.some.injEq] at h2
      subst h2
      have hx' := hx
      simp only [conc, Option.map_eq_some_iff] at hx'
      obtain ⟨p, _, k2⟩ := hx'
      exact .pure r hx (by simp [execOp, hop, ← k2])
    · cases h2
  case h_11 op t x y _ hop =>
    obtain ⟨v, h1, ha⟩ := b1_eq ha
    obtain ⟨u, h2, ha⟩ := b1_eq ha
    obtain ⟨v', h3, rfl, rfl⟩ := aval_eq ha
    obtain ⟨c, k1, k2⟩ := abin_sound (w := w) h3 (re _ _ h1) (re _ _ h2)
    refine .pure r k1 ?_
    simp only [execOp, hop, Sem.run_bind] at k2 ⊢
    rw [k2]
    rfl
  case h_12 op _ x hop =>
    obtain ⟨v, h1, ha⟩ := b1_eq ha
    obtain ⟨v', h3, rfl, rfl⟩ := aval_eq ha
    obtain ⟨c, k1, k2⟩ := aun_sound (P := P) (w := w) h3 (re _ _ h1)
    exact .pure r k1 (by simp [execOp, hop, k2])
  case h_13 s d x hop =>
    obtain ⟨v, h1, ha⟩ := b1_eq ha
    obtain ⟨v', h3, rfl, rfl⟩ := aval_eq ha
    obtain ⟨c, k1, k2⟩ := aconv_sound r h3 (re _ _ h1)
    exact .pure r k1 (by simp [execOp, hop, k2])
  case h_14 t x hop =>
    obtain ⟨v, h1, ha⟩ := b1_eq ha
    rw [cond_some] at ha
    obtain ⟨hcn, ha⟩ := ha
    simp only [Option.some.injEq, Prod.mk.injEq] at ha
    obtain ⟨rfl, rfl⟩ := ha
    exact .pure r (c := .iface t (a.eval x)) (by simp [conc, re _ _ h1]) (by simp [execOp, hop, run_makeInterface w t _ hcn])
  case h_15 fn first captured hop =>
    split at ha
    · rename_i f hf
      split at ha
      · rename_i c hc
        simp only [Option.some.injEq, Prod.mk.injEq] at ha
        obtain ⟨rfl, rfl⟩ := ha
        refine .pure r (conc_func.2 ⟨_, _, aevals_sound re hf, aevals_sound re hc, rfl⟩) ?_
        have e : ∀ x : Array Operand, x.map a.eval = (x.toList.map a.eval).toArray := fun x => by apply Array.ext'; simp
        simp [execOp, hop, Instr.makeFunc, e]
      · cases ha
    · cases ha
  case h_16 t hop =>
    obtain ⟨v, h1, rfl⟩ := avalh_eq ha
    obtain ⟨c, w', M', k1, k2, k3, k4⟩ := amakeMap_sound r h1 t
    exact ⟨.value c, w', M', by simp [execOp, hop, k1], k2, ⟨c, k3, rfl⟩, k4⟩
  case h_17 t x lo hi hop =>
    obtain ⟨v, h1, ha⟩ := b1_eq ha
    split at ha
    · rename_i l hl
      split at ha
      · rename_i u hu
        obtain ⟨v', h3, rfl, rfl⟩ := aval_eq ha
        obtain ⟨l1, l2⟩ := aopt_sound re hl
        obtain ⟨u1, u2⟩ := aopt_sound re hu
        obtain ⟨c, k1, k2⟩ := aslice_sound (w := w) h3 (re _ _ h1) l1 l2 u1 u2
        exact .pure r k1 (by simp [execOp, hop, k2])
      · cases ha
    · cases ha
  case h_18 t x f hop =>
    obtain ⟨v, h1, ha⟩ := b1_eq ha
    obtain ⟨v', h3, rfl, rfl⟩ := aval_eq ha
    obtain ⟨c, k1, k2⟩ := afieldAddr_sound (w := w) h3 (re _ _ h1)
    exact .pure r k1 (by simp [execOp, hop, k2])
  case h_19 t x f hop =>
    obtain ⟨v, h1, ha⟩ := b1_eq ha
    obtain ⟨v', h3, rfl, rfl⟩ := aval_eq ha
    obtain ⟨c, k1, k2⟩ := afield_sound (w := w) h3 (re _ _ h1)
    exact .pure r k1 (by simp [execOp, hop, k2])
  case h_20 t x i hop =>
    obtain ⟨v, h1, ha⟩ := b1_eq ha
    obtain ⟨u, h2, ha⟩ := b1_eq ha
    obtain ⟨v', h3, rfl, rfl⟩ := aval_eq ha
    obtain ⟨c, k1, k2⟩ := aindexAddr_sound (w := w) h3 (re _ _ h1) (re _ _ h2)
    exact .pure r k1 (by simp [execOp, hop, k2])
  case h_21 t x i hop =>
    obtain ⟨v, h1, ha⟩ := b1_eq ha
    obtain ⟨u, h2, ha⟩ := b1_eq ha
    obtain ⟨v', h3, rfl, rfl⟩ := aval_eq ha
    obtain ⟨c, k1, k2⟩ := aindex_sound (w := w) h3 (re _ _ h1) (re _ _ h2)
    exact .pure r k1 (by simp [execOp, hop, k2])
  case h_22 t x k ok hop =>
    obtain ⟨v, h1, ha⟩ := b1_eq ha
    obtain ⟨u, h2, ha⟩ := b1_eq ha
    obtain ⟨v', h3, rfl, rfl⟩ := aval_eq ha
    obtain ⟨c, k1, k2⟩ := alookup_sound r h3 (re _ _ h1) (re _ _ h2)
    exact .pure r k1 (by simp [execOp, hop, k2])
  case h_23 t m k x hop =>
    obtain ⟨v, h1, ha⟩ := b1_eq ha
    obtain ⟨u, h2, ha⟩ := b1_eq ha
    obtain ⟨y, h3, ha⟩ := b1_eq ha
    obtain ⟨h4, rfl⟩ := askip_eq ha
    obtain ⟨w', k1, k2, k3⟩ := aupdate_sound r h4 (re _ _ h1) (re _ _ h2) (re _ _ h3)
    exact ⟨.skip, w', M, by simp [execOp, hop, k1], Grow.same M k3, rfl, k2⟩
  case h_24 t m k x hop =>
    obtain ⟨v, h1, ha⟩ := b1_eq ha
    obtain ⟨u, h2, ha⟩ := b1_eq ha
    obtain ⟨y, h3, ha⟩ := b1_eq ha
    obtain ⟨h4, rfl⟩ := askip_eq ha
    obtain ⟨w', k1, k2, k3⟩ := aupdate_sound r h4 (re _ _ h1) (re _ _ h2) (re _ _ h3)
    exact ⟨.skip, w', M, by simp [execOp, hop, k1], Grow.same M k3, rfl, k2⟩
  case h_25 t x hop =>
    obtain ⟨v, h1, ha⟩ := b1_eq ha
    obtain ⟨v', h2, rfl⟩ := avalh_eq ha
    obtain ⟨c, w', M', k1, k2, k3, k4⟩ := arange_sound r h2 (re _ _ h1)
    exact ⟨.value c, w', M', by simp [execOp, hop, k1], k2, ⟨c, k3, rfl⟩, k4⟩
  case h_26 it s hop =>
    obtain ⟨v, h1, ha⟩ := b1_eq ha
    obtain ⟨v', h2, rfl⟩ := avalh_eq ha
    obtain ⟨c, w', k1, k3, k4, k5⟩ := anext_sound r h2 (re _ _ h1) o.type
    exact ⟨.value c, w', M, by simp [execOp, hop, k1], Grow.same M k5, ⟨c, k3, rfl⟩, k4⟩
  case h_27 x i hop =>
    obtain ⟨v, h1, ha⟩ := b1_eq ha
    obtain ⟨v', h3, rfl, rfl⟩ := aval_eq ha
    obtain ⟨c, k1, k2⟩ := aextract_sound (P := P) (w := w) h3 (re _ _ h1)
    exact .pure r k1 (by simp [execOp, hop, k2])
  case h_28 c hop =>
    split at ha
    · rename_i f hf
      obtain ⟨fv, h1, ha⟩ := b1_eq ha
      split at ha
      · rename_i g first captured
        obtain ⟨l, l', k1, k2, k3⟩ := conc_func.1 (re _ _ h1)
        split at ha
        · rename_i args hargs
          have k4 := aevals_sound re hargs
          have hm : c.args.map a.eval = (c.args.toList.map a.eval).toArray := by apply Array.ext'; simp
          split at ha
          · rename_i fi hfi
            simp only [Option.some.injEq, Prod.mk.injEq] at ha
            obtain ⟨rfl, rfl⟩ := ha
            refine ⟨_, w, M, ?_, Grow.refl _ M, ⟨_, concs_append (concs_append k1 k4) k2, rfl⟩, r⟩
            simp only [execOp, hop, resolve, hf, k3, Deferred.ofValue, Sem.run_bind, Sem.run_pure, Result.andThen_ok, invoke, hm, callFunc_body hfi]
            simp
          · rename_i hfi
            rw [cond_some] at ha
            obtain ⟨he, ha⟩ := ha
            split at ha
            · rename_i x
              simp only [Option.some.injEq, Prod.mk.injEq] at ha
              obtain ⟨rfl, rfl⟩ := ha
              rw [concs_nil] at k1 k2
              subst k1 k2
              obtain ⟨y, ys, e1, e2, e3⟩ := concs_cons.1 k4
              rw [concs_nil] at e3
              subst e3
              refine .pure r e2 ?_
              simp only [execOp, hop, resolve, hf, k3, Deferred.ofValue, Sem.run_bind, Sem.run_pure, Result.andThen_ok, invoke, hm, e1]
              have := hext g he y w
              simpa using this
            · cases ha
        · cases ha
      · cases ha
    · rename_i b hb
      split at ha
      · rename_i args hargs
        have k4 := aevals_sound re hargs
        have hm : c.args.map a.eval = (c.args.toList.map a.eval).toArray := by apply Array.ext'; simp
        have hrun : ∀ {s : Sem Next} , builtin b c.argTypes o.type (c.args.map fun | .const _ => true | _ => false) (c.args.toList.map a.eval).toArray = s → execOp a.eval o = s := by
          intro s e
          rw [← e]
          simp only [execOp, hop, resolve, hb, hm]
          rfl
        unfold abuiltin at ha
        have hts : c.argTypes = c.argTypes.toList.toArray := by simp
        split at ha
        · rename_i t x hts'
          obtain ⟨v', h3, rfl, rfl⟩ := aval_eq ha
          obtain ⟨y, ys, e1, e2, e3⟩ := concs_cons.1 k4
          rw [concs_nil] at e3
          subst e3
          obtain ⟨cv, k5, k6⟩ := alen_sound r (ty := o.type) h3 e2
          refine .pure r k5 ?_
          rw [hrun rfl, hts, hts', e1]
          simp [builtin, k6]
        · rename_i t u s x hts'
          obtain ⟨v', h3, rfl⟩ := avalh_eq ha
          obtain ⟨y, ys, e1, e2, e3⟩ := concs_cons.1 k4
          obtain ⟨z, zs, rfl, e5, e6⟩ := concs_cons.1 e3
          rw [concs_nil] at e6
          subst e6
          obtain ⟨cv, w', M', k5, k6, k7, k8⟩ := aappend_sound r (ty := o.type) h3 e2 e5
          refine ⟨.value cv, w', M', ?_, k6, ⟨cv, k7, rfl⟩, k8⟩
          rw [hrun rfl, hts, hts', e1]
          simp [builtin, k5]
        · rename_i x y
          obtain ⟨v', h3, rfl, rfl⟩ := aval_eq ha
          obtain ⟨y, ys, e1, e2, e3⟩ := concs_cons.1 k4
          obtain ⟨z, zs, rfl, e5, e6⟩ := concs_cons.1 e3
          rw [concs_nil] at e6
          subst e6
          obtain ⟨cv, k5, k6⟩ := amax_sound (P := P) (w := w) h3 e2 e5 c.argTypes o.type
          refine .pure r k5 ?_
          rw [hrun rfl, e1]
          simp [builtin, k6]
        · rename_i x y
          obtain ⟨v', h3, rfl, rfl⟩ := aval_eq ha
          obtain ⟨y, ys, e1, e2, e3⟩ := concs_cons.1 k4
          obtain ⟨z, zs, rfl, e5, e6⟩ := concs_cons.1 e3
          rw [concs_nil] at e6
          subst e6
          obtain ⟨cv, k5, k6⟩ := amin_sound (P := P) (w := w) h3 e2 e5 c.argTypes o.type
          refine .pure r k5 ?_
          rw [hrun rfl, e1]
          simp [builtin, k6]
        · rename_i x
          obtain ⟨v', h3, rfl, rfl⟩ := aval_eq ha
          obtain ⟨y, ys, e1, e2, e3⟩ := concs_cons.1 k4
          rw [concs_nil] at e3
          subst e3
          obtain ⟨cv, k5, k6⟩ := asliceData_sound (P := P) (w := w) h3 e2 c.argTypes o.type
          refine .pure r k5 ?_
          rw [hrun rfl, e1]
          simp [builtin, k6]
        · rename_i t t' x n' hts'
          obtain ⟨v', h3, rfl⟩ := avalh_eq ha
          obtain ⟨y, ys, e1, e2, e3⟩ := concs_cons.1 k4
          obtain ⟨z, zs, rfl, e5, e6⟩ := concs_cons.1 e3
          rw [concs_nil] at e6
          subst e6
          obtain ⟨cv, w', k5, k7, k8, k9⟩ := aunsafeString_sound r h3 e2 e5 t' o.type
          refine ⟨.value cv, w', M, ?_, Grow.same M k9, ⟨cv, k7, rfl⟩, k8⟩
          rw [hrun rfl, hts, hts', e1]
          simp [builtin, k5]
        · cases ha
      · cases ha
    · cases ha
  case h_29 => cases ha
theorem aevals_congr {g g' : Ev} : ∀ {xs : List Operand}, (∀ x ∈ xs, g x = g' x) → aevals g xs = aevals g' xs
  | [], _ => rfl
  | x :: xs, h => by
    have ih := aevals_congr (g := g) (g' := g') (xs := xs) (fun y hy => h y (List.mem_cons_of_mem _ hy))
    simp only [aevals, h x (List.mem_cons_self ..), ih]
theorem aparts_congr {g g' : Ev} : ∀ {xs : List (Nat × Operand)}, (∀ p ∈ xs, g p.2 = g' p.2) → aparts g xs = aparts g' xs
  | [], _ => rfl
  | (i, x) :: xs, h => by
    have ih := aparts_congr (g := g) (g' := g') (xs := xs) (fun y hy => h y (List.mem_cons_of_mem _ hy))
    have h0 := h (i, x) (List.mem_cons_self ..)
    simp only at h0
    simp only [aparts, h0, ih]
theorem aop_congr {P : Program} {ext : FuncId → Bool} {o : Oper} {g g' : Ev} {h : Heap} (he : ∀ x ∈ o.op.operands, g x = g' x) : aop P ext o g h = aop P ext o g' h := by
  obtain ⟨dst, op, type, pos, after, guard⟩ := o
  cases op <;> simp only [Op.operands] at he <;> simp only [aop]
  case build t ps => rw [aparts_congr (g := g) (g' := g') fun p hp => he p.2 (by simp; exact ⟨p.1, by simpa using hp⟩)]
  case buildSlice t n ps => rw [aparts_congr (g := g) (g' := g') fun p hp => he p.2 (by simp; exact ⟨p.1, by simpa using hp⟩)]
  case makeFunc fn first captured =>
    rw [aevals_congr (g := g) (g' := g') fun x hx => he x (by simp at hx; simp [hx]), aevals_congr (g := g) (g' := g') (xs := captured.toList) fun x hx => he x (by simp at hx; simp [hx])]
  case call c =>
    have ha : aevals g c.args.toList = aevals g' c.args.toList := aevals_congr fun x hx => he x (by simp at hx; simp [Call.operands, hx])
    cases hc : c.callee with
    | value f =>
      have hf : g f = g' f := he f (by simp [Call.operands, hc])
      simp only [b1, hf, ha]
    | invoke r m => rfl
    | builtin b => simp only [ha]
  case slice t x lo hi mx =>
    cases mx with
    | none =>
      have h1 : aopt g lo = aopt g' lo := by
        cases lo with
        | none => rfl
        | some l => simp only [aopt, he l (by simp)]
      have h2 : aopt g hi = aopt g' hi := by
        cases hi with
        | none => rfl
        | some l => simp only [aopt, he l (by simp)]
      simp only [b1, he x (by simp), h1, h2]
    | some m => rfl
  case makeMap t r => cases r <;> rfl
  all_goals first
    | rfl
    | (simp only [b1]; simp only [he _ (show _ ∈ _ by simp)]; done)
    | (simp only [b1, aval]; simp_all; done)
end Go.Am
namespace Go.Am
open Go Go.RowKit
theorem bytesWorld_eq (w : World) (e : TypeId) (s : ByteArray) : Go.Lib.bytesWorld w e s = { w.drew with heap := w.drew.heap.push (.cells (Go.Lib.bytesCells w e s) e ((Go.Lib.bytesCells w e s).size, (Go.Lib.bytesCells w e s).size + 1)) } := by
  unfold Go.Lib.bytesWorld World.freeze World.alloc World.drew
  simp only
  rw [if_neg (by omega)]
  congr 1
  apply Array.ext
  · simp
  · intro i h1 h2
    rw [Array.getElem_modify, Array.getElem_push, Array.getElem_push]
    by_cases hi : i < w.heap.size
    · have : w.heap.size ≠ i := by omega
      simp [hi, this]
    · have : w.heap.size = i := by
        simp only [Array.size_push] at h2
        omega
      subst this
      simp
def aconvB (P : Program) (s d : TypeId) (a : AV) (h : Heap) : Option (AV × Heap) :=
  match a with
  | .str l => match P.underlying s with
    | some _ => match P.underlying d with
      | some (.slice e) => match P.underlying e with
        | some (.int .u8) => bif Nat.beq (P.cellsOf e) 1 then
            match h.add (.ro e 1 (l.map fun b => .int .u8 (.ofNat b.toNat))) with
            | some (i, h') => some (.slice i 0 l.length 1, h')
            | none => none
          else none
        | _ => none
      | _ => none
    | none => none
  | _ => none
theorem aconvB_sound {P : Program} {B : Nat} {w0 : World} {M : Map} {h h' : Heap} {w : World} (r : HRel P B w0 M h w) {s d : TypeId} {a v : AV} (ha : aconvB P s d a h = some (v, h')) {ca : Value} (hc : conc M a = some ca) :
    ∃ c w' M', (convert s d ca).run P w = .ok c w' ∧ Grow h h' M M' ∧ conc M' v = some c ∧ HRel P B w0 M' h' w' := by
  unfold aconvB at ha
  split at ha
  · rename_i l
    split at ha
    · rename_i u hs
      split at ha
      · rename_i e hd
        split at ha
        · rename_i he
          rw [cond_some] at ha
          obtain ⟨_, ha⟩ := ha
          split at ha
          · rename_i i h'' hadd
            simp only [Option.some.injEq, Prod.mk.injEq] at ha
            obtain ⟨rfl, rfl⟩ := ha
            simp only [conc, Option.some.injEq] at hc
            subst hc
            have hsz : (⟨l.toArray⟩ : ByteArray).size = l.length := by simp [ByteArray.size]
            have hrun := Go.Lib.run_convert_string_bytes w s d e ⟨l.toArray⟩ hs hd he
            have hge := grownCap_ge w l.length 0 e
            obtain ⟨_, k2, k3⟩ := r.drew.add hadd (co := .cells (Go.Lib.bytesCells w e ⟨l.toArray⟩) e ((Go.Lib.bytesCells w e ⟨l.toArray⟩).size, (Go.Lib.bytesCells w e ⟨l.toArray⟩).size + 1)) (cap := grownCap w l.length 0 e)
              (fun j a hj => by
                rw [List.getElem?_map] at hj
                cases hl : l[j]? with
                | none => simp [hl] at hj
                | some b =>
                  simp only [hl, Option.map_some, Option.some.injEq] at hj
                  subst hj
                  refine ⟨.int .u8 b.toNat, rfl, ?_⟩
                  have hlt : j < l.length := (List.getElem?_eq_some_iff.1 hl).1
                  simp only [cellAt, Go.Lib.bytesCells, Nat.zero_add]
                  rw [Array.getElem?_append_left (by simpa using hlt)]
                  simp [hl])
            rw [bytesWorld_eq, hsz] at hrun
            refine ⟨_, _, _, hrun, k2, conc_slice.2 ⟨_, Map.put_self _ _ _, ?_, ?_⟩, k3⟩
            · simp only; omega
            · simp [World.drew, -World.drew_eq]
          · cases ha
        · cases ha
      · cases ha
    · cases ha
  · cases ha
def aopX (P : Program) (o : Oper) (env : Ev) (h : Heap) : Option (AV × Heap) :=
  match o.op with
  | .convert s d x => b1 env x fun a => aconvB P s d a h
  | _ => none
theorem aopX_sound {P : Program} {o : Oper} {env : Ev} {h h' : Heap} {v : AV} (ha : aopX P o env h = some (v, h')) {B : Nat} {w0 w : World} {M : Map} (r : HRel P B w0 M h w) {a : Act} (re : GRel M env a) :
    Runs P B w0 M h w (execOp a.eval o) (.val v) h' := by
  unfold aopX at ha
  split at ha
  · rename_i s d x hop
    obtain ⟨u, h1, ha⟩ := b1_eq ha
    obtain ⟨c, w', M', k1, k2, k3, k4⟩ := aconvB_sound r ha (re _ _ h1)
    exact ⟨.value c, w', M', by simp [execOp, hop, k1], k2, ⟨c, k3, rfl⟩, k4⟩
  · cases ha
end Go.Am
