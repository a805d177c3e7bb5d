/- Part of the proof: AmMap, AmApp. -/
import Derived.Test.YtijdeggmmpfjeaaGreatDoorM2
import Derived.Laws.StructEq
set_option linter.unusedSimpArgs false
set_option linter.unusedVariables false
set_option linter.unusedSectionVars false
namespace Go.Am
open Go Go.RowKit
theorem cond_some {α : Type} {c : Bool} {x : Option α} {y : α} : (bif c then x else none) = some y ↔ c = true ∧ x = some y := by cases c <;> simp
theorem cond_none {α : Type} {c : Bool} {x : Option α} {y : α} : (bif c then none else x) = some y ↔ c = false ∧ x = some y := by cases c <;> simp
def ikeq : IntKind → IntKind → Bool
  | .i64, .i64 | .i32, .i32 | .u8, .u8 | .u64, .u64 => true
  | _, _ => false
theorem ikeq_eq {a b : IntKind} (h : ikeq a b = true) : a = b := by cases a <;> cases b <;> first | rfl | cases h
theorem conc_func {M : Map} {fn : Fn} {f cp : List AV} {c : Value} : conc M (.func fn f cp) = some c ↔ ∃ l l', concs M f = some l ∧ concs M cp = some l' ∧ c = .func fn l.toArray l'.toArray := by
  simp only [conc]
  cases h1 : concs M f with
  | none => simp
  | some x =>
    cases h2 : concs M cp with
    | none => simp
    | some y => simp [eq_comm]
def aeqFields (eq : TypeId → AV → AV → Option Bool) (P : Program) (xs ys : List AV) : List Field → Option Bool
  | [] => some true
  | f :: fs => bif f.name == "_" then none else
    match apart P f.type xs f.offset, apart P f.type ys f.offset with
    | some a, some b => match eq f.type a b with
      | some true => aeqFields eq P xs ys fs
      | some false => some false
      | none => none
    | _, _ => none
def aeqIn (P : Program) : Nat → TypeId → AV → AV → Option Bool
  | 0, _, _, _ => none
  | n + 1, t, x, y =>
    match P.underlying t, x, y with
    | some .bool, .bool a, .bool b => some (a == b)
    | some (.int _), .int k a, .int k' b => bif ikeq k k' then some (ieq a b) else none
    | some .string, .str a, .str b => some (lbeq a b)
    | some (.pointer _), .nilptr, .nilptr => some true
    | some (.pointer _), .nilptr, .ptr _ _ => some false
    | some (.pointer _), .ptr _ _, .nilptr => some false
    | some (.pointer e), .ptr i o, .ptr j o' => bif Nat.beq i j then
        bif (P.info? e).isSome then bif Nat.beq (P.cellsOf e) 0 then none else some (Nat.beq o o') else none
      else none
    | some (.interface _), .niliface, .niliface => some true
    | some (.interface _), .niliface, .iface _ _ => some false
    | some (.interface _), .iface _ _, .niliface => some false
    | some (.slice _), .nilslice, .nilslice => some true
    | some (.slice _), .nilslice, .slice _ _ _ _ => some false
    | some (.slice _), .slice _ _ _ _, .nilslice => some false
    | some (.map _ _), .nilmap, .nilmap => some true
    | some (.map _ _), .nilmap, .map _ => some false
    | some (.map _ _), .map _, .nilmap => some false
    | some (.func _ _ _), .nilfunc, .nilfunc => some true
    | some (.func _ _ _), .func _ _ _, .nilfunc => some false
    | some (.func _ _ _), .nilfunc, .func _ _ _ => some false
    | some (.struct fs), .agg xs, .agg ys => bif P.stoodInHeld t then none else aeqFields (aeqIn P n) P xs ys fs.toList
    | _, _, _ => none
theorem aeqFields_sound {P : Program} {M : Map} {w : World} {eq : TypeId → AV → AV → Option Bool} {d : Nat}
    (heq : ∀ t x y b, eq t x y = some b → ∀ cx cy, conc M x = some cx → conc M y = some cy → (Op.equalIn d t cx cy).run P w = .ok b w) {xs ys : List AV} {cxs cys : List Value}
    (hx : concs M xs = some cxs) (hy : concs M ys = some cys) : ∀ {fs : List Field} {b : Bool}, aeqFields eq P xs ys fs = some b → (Op.eqFields d cxs.toArray cys.toArray fs).run P w = .ok b w
  | [], b, h => by simp [aeqFields] at h; subst h; rfl
  | f :: fs, b, h => by
    simp only [aeqFields] at h
    cases hn : f.name == "_" with
    | true => simp [hn] at h
    | false =>
      simp only [hn, cond_false] at h
      have hn' : f.name ≠ "_" := by simpa using hn
      split at h
      · rename_i a b' ha hb
        obtain ⟨ca, h1, h2⟩ := apart_sound (w := w) ha hx
        obtain ⟨cb, h3, h4⟩ := apart_sound (w := w) hb hy
        simp only [Op.eqFields, if_pos hn', Sem.run_bind, h2, Result.andThen_ok, h4]
        split at h
        · rename_i he
          rw [heq _ _ _ _ he _ _ h1 h3]
          simp only [Result.andThen_ok, Bool.not_true, Bool.false_eq_true, if_false]
          exact aeqFields_sound heq hx hy h
        · rename_i he
          simp only [Option.some.injEq] at h
          subst h
          rw [heq _ _ _ _ he _ _ h1 h3]
          simp
        · cases h
      · cases h
theorem aeqIn_sound {P : Program} {M : Map} {w : World} : ∀ {n : Nat} {t : TypeId} {x y : AV} {b : Bool}, aeqIn P n t x y = some b → ∀ {cx cy : Value}, conc M x = some cx → conc M y = some cy →
    ∀ d, n ≤ d → (Op.equalIn d t cx cy).run P w = .ok b w
  | 0, _, _, _, _, h, _, _, _, _, _, _ => by simp [aeqIn] at h
  | n + 1, t, x, y, b, h, cx, cy, hx, hy, d, hd => by
    obtain ⟨d, rfl⟩ : ∃ m, d = m + 1 := ⟨d - 1, by omega⟩
    unfold aeqIn at h
    split at h
    case h_1 hu =>
      simp only [Option.some.injEq, conc] at h hx hy; subst h hx hy
      exact run_equalIn_bool' w d t _ _ hu
    case h_2 hu =>
      simp only [cond_some, Option.some.injEq, conc] at h hx hy
      obtain ⟨hk, rfl⟩ := h
      subst hx hy
      have := ikeq_eq hk
      subst this
      rw [run_equalIn_int w d t _ _ _ _ hu, ieq_iff]
      congr 1
    case h_3 hu =>
      simp only [Option.some.injEq, conc] at h hx hy
      subst h hx hy
      rw [run_equalIn_string w d t _ _ hu, lbeq_iff, toList_mk, toList_mk]
      congr 1
      rw [Bool.eq_iff_iff]; simp
    case h_7 hu =>
      simp only [cond_some, cond_none, Option.some.injEq, conc, Option.map_eq_some_iff] at h hx hy
      obtain ⟨hij, hi, h0, rfl⟩ := h
      obtain ⟨p, h1, rfl⟩ := hx
      obtain ⟨q, h2, rfl⟩ := hy
      have := Nat.eq_of_beq_eq_true hij
      subst this
      rw [h1] at h2
      simp only [Option.some.injEq] at h2
      subst h2
      have h0' := Nat.ne_of_beq_eq_false h0
      simp [Op.equalIn, run_underlying hu, run_sizeOf' hi, h0', sameAddr, beq_iff']
      rw [Bool.eq_iff_iff]; simp
    case h_20 fs _ _ hu =>
      simp only [cond_none, conc, Option.map_eq_some_iff] at h hx hy
      obtain ⟨hs, h⟩ := h
      obtain ⟨l1, h1, rfl⟩ := hx
      obtain ⟨l2, h2, rfl⟩ := hy
      have hf : P.underlying t = some (.struct (P.fieldsOf t)) := by simp [Program.fieldsOf, hu]
      have hf2 : P.fieldsOf t = fs := by simp only [Program.fieldsOf, hu]
      rw [run_equalIn_struct w d t _ _ hf hs, hf2]
      exact aeqFields_sound (fun t x y b e cx cy ex ey => aeqIn_sound e ex ey d (by omega)) h1 h2 h
    case h_21 => cases h
    all_goals
      rename_i hu
      first
      | (simp only [Option.some.injEq, conc] at h hx hy; subst h hx hy; simp [Op.equalIn, run_underlying hu]; done)
      | (simp only [Option.some.injEq, conc, Option.map_eq_some_iff] at h hx hy; obtain ⟨p, hp, rfl⟩ := hx; subst h hy; simp [Op.equalIn, run_underlying hu]; done)
      | (simp only [Option.some.injEq, conc, Option.map_eq_some_iff] at h hx hy; obtain ⟨p, hp, rfl⟩ := hy; subst h hx; simp [Op.equalIn, run_underlying hu]; done)
      | (obtain ⟨_, _, _, rfl⟩ := conc_slice.1 hx; simp only [Option.some.injEq, conc] at h hy; subst h hy; simp [Op.equalIn, run_underlying hu]; done)
      | (obtain ⟨_, _, _, rfl⟩ := conc_slice.1 hy; simp only [Option.some.injEq, conc] at h hx; subst h hx; simp [Op.equalIn, run_underlying hu]; done)
      | (obtain ⟨_, _, _, _, rfl⟩ := conc_func.1 hx; simp only [Option.some.injEq, conc] at h hy; subst h hy; simp [Op.equalIn, run_underlying hu]; done)
      | (obtain ⟨_, _, _, _, rfl⟩ := conc_func.1 hy; simp only [Option.some.injEq, conc] at h hx; subst h hx; simp [Op.equalIn, run_underlying hu]; done)
def akey (d : TypeDesc) (a b : AV) : Option Bool :=
  match d, a, b with
  | .int _, .int k x, .int k' y => bif ikeq k k' then some (ieq x y) else none
  | .string, .str x, .str y => some (lbeq x y)
  | .bool, .bool x, .bool y => some (x == y)
  | _, _, _ => none
theorem akey_sound {M : Map} {d : TypeDesc} {a b : AV} {r : Bool} (h : akey d a b = some r) {ca cb : Value} (ha : conc M a = some ca) (hb : conc M b = some cb) :
    Instr.sameNow d ca cb = some r ∧ Instr.sameBits 10000 ca cb = r := by
  unfold akey at h
  split at h
  · simp only [cond_some, Option.some.injEq, conc] at h ha hb
    obtain ⟨hk, rfl⟩ := h
    subst ha hb
    have := ikeq_eq hk
    subst this
    constructor
    · simp only [Instr.sameNow, if_true, ieq_iff]; congr 1
    · simp only [Instr.sameBits, ieq_iff, beq_self_eq_true, Bool.true_and]; rfl
  · simp only [Option.some.injEq, conc] at h ha hb
    subst h ha hb
    have e : ∀ x y : List UInt8, ((⟨x.toArray⟩ : ByteArray) == ⟨y.toArray⟩) = lbeq x y := fun x y => by
      rw [beq_toListBytes, toList_mk, toList_mk, lbeq_iff, Bool.eq_iff_iff]; simp
    exact ⟨by simp only [Instr.sameNow, e], by simp only [Instr.sameBits, e]⟩
  · simp only [Option.some.injEq, conc] at h ha hb
    subst h ha hb
    exact ⟨rfl, rfl⟩
  · cases h
theorem akey_symm {d : TypeDesc} {a b : AV} {r : Bool} (h : akey d a b = some r) : akey d b a = some r := by
  unfold akey at h
  split at h
  · simp only [cond_some, Option.some.injEq] at h
    obtain ⟨hk, rfl⟩ := h
    have := ikeq_eq hk
    subst this
    simp only [akey, cond_some, Option.some.injEq]
    exact ⟨hk, by rw [ieq_iff, ieq_iff]; exact decide_eq_decide.2 eq_comm⟩
  · simp only [Option.some.injEq] at h
    subst h
    simp only [akey, Option.some.injEq, lbeq_iff]
    exact decide_eq_decide.2 eq_comm
  · simp only [Option.some.injEq] at h
    subst h
    simp only [akey, Option.some.injEq]
    exact Bool.beq_comm
  · cases h
def afind (d : TypeDesc) (k : AV) : List (AV × AV) → Nat → Option (Option (Nat × AV))
  | [], _ => some none
  | (k', v) :: es, i => match akey d k k' with
    | some true => some (some (i, v))
    | some false => afind d k es (i + 1)
    | none => none
theorem afind_sound {M : Map} {d : TypeDesc} {k : AV} {ck : Value} (hk : conc M k = some ck) : ∀ {es : List (AV × AV)} {ents : List MapEntry} {i : Nat} {r : Option (Nat × AV)}, afind d k es i = some r → concE M es ents →
    (r = none ∧ Instr.findNow d ck ents i = some none) ∨
    (∃ j v cv e, r = some (i + j, v) ∧ conc M v = some cv ∧ Instr.findNow d ck ents i = some (some (i + j, cv)) ∧ ents[j]? = some e ∧ Instr.sameBits 10000 e.key ck = true)
  | [], ents, i, r, h, he => by
    simp only [afind, Option.some.injEq] at h
    subst h
    simp only [concE] at he
    subst he
    exact .inl ⟨rfl, rfl⟩
  | (k', v) :: es, ents, i, r, h, ⟨e, rest, h0, h1, h2, h3⟩ => by
    subst h0
    simp only [afind] at h
    split at h
    · rename_i hkey
      simp only [Option.some.injEq] at h
      subst h
      obtain ⟨s1, s2⟩ := akey_sound hkey hk h1
      refine .inr ⟨0, v, e.val, e, rfl, h2, by simp [Instr.findNow, s1], by simp, ?_⟩
      exact (akey_sound (akey_symm hkey) h1 hk).2
    · rename_i hkey
      obtain ⟨s1, _⟩ := akey_sound hkey hk h1
      rcases afind_sound hk h h3 with ⟨a1, a2⟩ | ⟨j, v', cv, e', a1, a2, a3, a4, a5⟩
      · exact .inl ⟨a1, by simp only [Instr.findNow, s1, a2]⟩
      · refine .inr ⟨j + 1, v', cv, e', by rw [a1, show i + 1 + j = i + (j + 1) by omega], a2, ?_, by simpa using a4, a5⟩
        rw [show i + (j + 1) = i + 1 + j by omega]
        simp only [Instr.findNow, s1, a3]
    · cases h
theorem akey_true {d : TypeDesc} {a b : AV} (h : akey d a b = some true) : a = b := by
  unfold akey at h
  split at h
  · simp only [cond_some, Option.some.injEq] at h
    obtain ⟨hk, h⟩ := h
    have := ikeq_eq hk
    subst this
    rw [ieq_iff] at h
    rw [of_decide_eq_true h]
  · simp only [Option.some.injEq, lbeq_iff] at h
    rw [of_decide_eq_true h]
  · simp only [Option.some.injEq, beq_iff_eq] at h
    rw [h]
  · cases h
def akeyAll (d : TypeDesc) (k : AV) : List (AV × AV) → Bool
  | [] => true
  | (k', _) :: es => match akey d k k' with
    | some _ => akeyAll d k es
    | none => false
theorem akeyAll_mem {d : TypeDesc} {k : AV} : ∀ {es : List (AV × AV)}, akeyAll d k es = true ↔ ∀ e ∈ es, ∃ b, akey d k e.1 = some b
  | [] => by simp [akeyAll]
  | (k', v') :: es => by
    simp only [akeyAll]
    split
    · rename_i b hb
      rw [akeyAll_mem]
      constructor
      · intro h e he
        rcases List.mem_cons.1 he with rfl | he
        · exact ⟨b, hb⟩
        · exact h e he
      · exact fun h e he => h e (List.mem_cons_of_mem _ he)
    · rename_i hb
      constructor
      · intro h; cases h
      · intro h
        obtain ⟨b, h⟩ := h (k', v') (List.mem_cons_self ..)
        rw [hb] at h
        cases h
theorem afind_mem {d : TypeDesc} {k : AV} : ∀ {es : List (AV × AV)} {i j : Nat} {v : AV}, afind d k es i = some (some (j, v)) → (k, v) ∈ es
  | [], i, j, v, h => by simp [afind] at h
  | (k', v') :: es, i, j, v, h => by
    simp only [afind] at h
    split at h
    · rename_i hk
      simp only [Option.some.injEq, Prod.mk.injEq] at h
      rw [akey_true hk, h.2]
      exact List.mem_cons_self ..
    · exact List.mem_cons_of_mem _ (afind_mem h)
    · cases h
theorem afind_none {d : TypeDesc} {k : AV} : ∀ {es : List (AV × AV)} {i : Nat}, afind d k es i = some none → ∀ e ∈ es, akey d k e.1 = some false
  | [], i, h, e, he => by simp at he
  | (k', v') :: es, i, h, e, he => by
    simp only [afind] at h
    split at h
    · cases h
    · rename_i hk
      rcases List.mem_cons.1 he with rfl | he
      · exact hk
      · exact afind_none h e he
    · cases h
theorem afind_total {d : TypeDesc} {k : AV} : ∀ {es : List (AV × AV)} {i : Nat}, akeyAll d k es = true → ∃ r, afind d k es i = some r
  | [], i, _ => ⟨_, rfl⟩
  | (k', v') :: es, i, h => by
    simp only [akeyAll] at h
    simp only [afind]
    split at h
    · rename_i b hb
      rw [hb]
      cases b
      · exact afind_total h
      · exact ⟨_, rfl⟩
    · cases h
theorem nodup_keys_inj {k v v' : AV} : ∀ {es : List (AV × AV)}, (es.map Prod.fst).Nodup → (k, v) ∈ es → (k, v') ∈ es → v = v'
  | [], _, h, _ => by simp at h
  | (a, b) :: es, hn, h, h' => by
    simp only [List.map_cons, List.nodup_cons] at hn
    rcases List.mem_cons.1 h with e | h1
    · rcases List.mem_cons.1 h' with e' | h2
      · cases e; cases e'; rfl
      · cases e; exact (hn.1 (List.mem_map.2 ⟨(k, v'), h2, rfl⟩)).elim
    · rcases List.mem_cons.1 h' with e' | h2
      · cases e'; exact (hn.1 (List.mem_map.2 ⟨(k, v), h1, rfl⟩)).elim
      · exact nodup_keys_inj hn.2 h1 h2
theorem afind_perm {d : TypeDesc} {k : AV} {es es' : List (AV × AV)} (hp : es'.Perm es) (hn : (es.map Prod.fst).Nodup) (ha : akeyAll d k es = true) :
    (∀ j v, afind d k es 0 = some (some (j, v)) → ∃ j', afind d k es' 0 = some (some (j', v))) ∧ (afind d k es 0 = some none → afind d k es' 0 = some none) := by
  have ha' : akeyAll d k es' = true := akeyAll_mem.2 fun e he => akeyAll_mem.1 ha e (hp.mem_iff.1 he)
  obtain ⟨r, hr⟩ := afind_total (i := 0) ha'
  constructor
  · intro j v h
    have h1 := afind_mem h
    cases r with
    | none =>
      have := afind_none hr _ (hp.mem_iff.2 h1)
      have h2 := afind_total (i := 0) ha
      exfalso
      have key : ∀ {es : List (AV × AV)} {i j : Nat} {v : AV}, afind d k es i = some (some (j, v)) → ∃ k', akey d k k' = some true := by
        intro es
        induction es with
        | nil => intro i j v h; simp [afind] at h
        | cons e es ih =>
          intro i j v h
          obtain ⟨k', v'⟩ := e
          simp only [afind] at h
          split at h
          · rename_i hk; exact ⟨k', hk⟩
          · exact ih h
          · cases h
      obtain ⟨k', hk'⟩ := key h
      have e := akey_true hk'
      subst e
      rw [hk'] at this
      cases this
    | some r =>
      obtain ⟨j', v'⟩ := r
      have h2 := hp.mem_iff.1 (afind_mem hr)
      rw [nodup_keys_inj hn h1 h2]
      exact ⟨j', hr⟩
  · intro h
    cases r with
    | none => exact hr
    | some r =>
      obtain ⟨j', v'⟩ := r
      have h2 := hp.mem_iff.1 (afind_mem hr)
      have h3 := afind_none h _ h2
      exfalso
      have key : ∀ {es : List (AV × AV)} {i j : Nat} {v : AV}, afind d k es i = some (some (j, v)) → akey d k k = some true := by
        intro es
        induction es with
        | nil => intro i j v h; simp [afind] at h
        | cons e es ih =>
          intro i j v h
          obtain ⟨k', v'⟩ := e
          simp only [afind] at h
          split at h
          · rename_i hk
            have e := akey_true hk
            subst e
            exact hk
          · exact ih h
          · cases h
      simp only at h3
      rw [key hr] at h3
      cases h3
def keyKind : TypeDesc → Bool
  | .int _ | .string | .bool => true
  | _ => false
theorem checkKey_plain {P : Program} {t : TypeId} {d : TypeDesc} (hd : P.underlying t = some d) (hk : keyKind d = true) (e : Bool) (v : Value) (w : World) : (Instr.checkKey e 10000 t v).run P w = .ok () w := by
  show (Instr.checkKey e (9999 + 1) t v).run P w = .ok () w
  unfold Instr.checkKey
  simp only [Sem.run_bind, run_underlying hd, Result.andThen_ok]
  cases d <;> first | (cases hk; done) | (cases v <;> rfl)
theorem findKey_sound {P : Program} {t : TypeId} {d : TypeDesc} (hd : P.underlying t = some d) {k : Value} {es : List MapEntry} {r : Option (Nat × Value)} (h : Instr.findNow d k es 0 = some r) (w : World) :
    (Instr.findKey t k es).run P w = .ok r w := by
  simp [Instr.findKey, run_underlying hd, h]
def alookup (P : Program) (h : Heap) (t : TypeId) (x k : AV) (ok : Bool) : Option AV :=
  match P.underlying t with
  | some (.map kt et) => match P.underlying kt with
    | some d => bif keyKind d then
        match (match x with
          | .map i => match h.objs.get i with
            | some (.map es) => afind d k es 0
            | some (.umap es) => bif akeyAll d k es then afind d k es 0 else none
            | _ => none
          | .nilmap => some none
          | _ => none : Option (Option (Nat × AV))) with
        | some (some (_, v)) => some (bif ok then .tuple [v, .bool true] else v)
        | some none => match azero P et with
          | some z => some (bif ok then .tuple [z, .bool false] else z)
          | none => none
        | none => none
      else none
    | none => none
  | _ => none
theorem HRel.umap {P : Program} {B : Nat} {w0 : World} {M : Map} {h : Heap} {w : World} (r : HRel P B w0 M h w) {i : Nat} {p : Loc} (hM : M i = some p) {es : List (AV × AV)} (hg : h.objs.get i = some (.umap es)) :
    ∃ es' ents clock, w.heap[p.b]? = some (.map ents clock) ∧ es'.Perm es ∧ (es.map Prod.fst).Nodup ∧ concE M es' ents.toList := by
  have := (r.obj i p hM).2.2
  rw [hg] at this
  exact this
theorem alookup_sound {P : Program} {B : Nat} {w0 : World} {M : Map} {h : Heap} {w : World} (r : HRel P B w0 M h w) {t : TypeId} {x k v : AV} {ok : Bool} (ha : alookup P h t x k ok = some v)
    {cx ck : Value} (hx : conc M x = some cx) (hk : conc M k = some ck) : ∃ c, conc M v = some c ∧ (Instr.lookup t cx ck ok).run P w = .ok c w := by
  unfold alookup at ha
  split at ha
  · rename_i kt et hu
    split at ha
    · rename_i d hd
      rw [cond_some] at ha
      obtain ⟨hkk, ha⟩ := ha
      have fin : ∀ {v' : AV} {cv' : Value} {b : Bool}, conc M v' = some cv' → v = (bif ok then .tuple [v', .bool b] else v') →
          ∃ c, conc M v = some c ∧ c = (if ok = true then .tuple #[cv', .bool b] else cv') := by
        intro v' cv' b hv e
        cases ok
        · exact ⟨cv', by rw [e]; exact hv, rfl⟩
        · exact ⟨_, by rw [e]; simp [conc, concs, hv], rfl⟩
      split at ha
      · rename_i j v' hf
        simp only [Option.some.injEq] at ha
        split at hf
        · rename_i i
          split at hf
          · rename_i es hg
            simp only [conc, Option.map_eq_some_iff] at hx
            obtain ⟨p, h1, rfl⟩ := hx
            obtain ⟨ents, clock, h2, h3, _⟩ := r.map h1 hg
            rcases afind_sound hk hf h3 with ⟨a1, _⟩ | ⟨j', v'', cv, e, a1, a2, a3, _, _⟩
            · cases a1
            · simp only [Option.some.injEq, Prod.mk.injEq] at a1
              obtain ⟨_, rfl⟩ := a1
              obtain ⟨c, c1, c2⟩ := fin a2 ha.symm
              refine ⟨c, c1, ?_⟩
              subst c2
              simp only [Instr.lookup, Sem.run_bind, run_underlying hu, Result.andThen_ok, run_getObj_map h2, Sem.run_pure, checkKey_plain hd hkk, findKey_sound hd a3]
          · rename_i es hg
            rw [cond_some] at hf
            obtain ⟨hall, hf⟩ := hf
            simp only [conc, Option.map_eq_some_iff] at hx
            obtain ⟨p, h1, rfl⟩ := hx
            obtain ⟨es', ents, clock, h2, hp, hn, h3⟩ := r.umap h1 hg
            obtain ⟨j1, hf⟩ := (afind_perm hp hn hall).1 _ _ hf
            rcases afind_sound hk hf h3 with ⟨a1, _⟩ | ⟨j', v'', cv, e, a1, a2, a3, _, _⟩
            · cases a1
            · simp only [Option.some.injEq, Prod.mk.injEq] at a1
              obtain ⟨_, rfl⟩ := a1
              obtain ⟨c, c1, c2⟩ := fin a2 ha.symm
              refine ⟨c, c1, ?_⟩
              subst c2
              simp only [Instr.lookup, Sem.run_bind, run_underlying hu, Result.andThen_ok, run_getObj_map h2, Sem.run_pure, checkKey_plain hd hkk, findKey_sound hd a3]
          · cases hf
        · cases hf
        · cases hf
      · rename_i hf
        split at ha
        · rename_i z hz
          simp only [Option.some.injEq] at ha
          obtain ⟨cz, z1, z2⟩ := azero_sound hz M w
          obtain ⟨c, c1, c2⟩ := fin z1 ha.symm
          refine ⟨c, c1, ?_⟩
          subst c2
          split at hf
          · rename_i i
            split at hf
            · rename_i es hg
              simp only [conc, Option.map_eq_some_iff] at hx
              obtain ⟨p, h1, rfl⟩ := hx
              obtain ⟨ents, clock, h2, h3, _⟩ := r.map h1 hg
              rcases afind_sound hk hf h3 with ⟨_, a2⟩ | ⟨j', v'', cv, e, a1, _, _, _, _⟩
              · simp only [Instr.lookup, Sem.run_bind, run_underlying hu, Result.andThen_ok, run_getObj_map h2, Sem.run_pure, checkKey_plain hd hkk, findKey_sound hd a2, z2]
              · cases a1
            · rename_i es hg
              rw [cond_some] at hf
              obtain ⟨hall, hf⟩ := hf
              simp only [conc, Option.map_eq_some_iff] at hx
              obtain ⟨p, h1, rfl⟩ := hx
              obtain ⟨es', ents, clock, h2, hp, hn, h3⟩ := r.umap h1 hg
              have hf := (afind_perm hp hn hall).2 hf
              rcases afind_sound hk hf h3 with ⟨_, a2⟩ | ⟨j', v'', cv, e, a1, _, _, _, _⟩
              · simp only [Instr.lookup, Sem.run_bind, run_underlying hu, Result.andThen_ok, run_getObj_map h2, Sem.run_pure, checkKey_plain hd hkk, findKey_sound hd a2, z2]
              · cases a1
            · cases hf
          · simp only [conc, Option.some.injEq] at hx
            subst hx
            have e0 : Instr.findNow d ck (#[] : Array MapEntry).toList 0 = some none := rfl
            simp only [Instr.lookup, Sem.run_bind, run_underlying hu, Result.andThen_ok, Sem.run_pure, checkKey_plain hd hkk, findKey_sound hd e0, z2]
          · cases hf
        · cases ha
      · cases ha
    · cases ha
  · cases ha
def setAt {α : Type} : List α → Nat → α → List α
  | [], _, _ => []
  | x :: xs, n, y => bif Nat.beq n 0 then y :: xs else x :: setAt xs (n - 1) y
def aupdate (P : Program) (h : Heap) (t : TypeId) (m k v : AV) : Option Heap :=
  match P.underlying t with
  | some (.map kt _) => match P.underlying kt with
    | some d => bif keyKind d then
        match m with
        | .map i => match h.objs.get i with
          | some (.map es) => match afind d k es 0 with
            | some (some (j, _)) => h.put i (some (.map (setAt es j (k, v))))
            | some none => h.put i (some (.map (es ++ [(k, v)])))
            | none => none
          | _ => none
        | _ => none
      else none
    | none => none
  | _ => none
theorem concE_append {M : Map} : ∀ {l l' : List (AV × AV)} {es es' : List MapEntry}, concE M l es → concE M l' es' → concE M (l ++ l') (es ++ es')
  | [], _, _, _, h, h' => by simp only [concE] at h; subst h; simpa using h'
  | (_, _) :: _, _, _, _, ⟨e, rest, h0, h1, h2, h3⟩, h' => by subst h0; exact ⟨e, rest ++ _, rfl, h1, h2, concE_append h3 h'⟩
theorem concE_set {M : Map} {k v : AV} {ck cv : Value} (hk : conc M k = some ck) (hv : conc M v = some cv) : ∀ {l : List (AV × AV)} {es : List MapEntry} (j : Nat), concE M l es →
    concE M (setAt l j (k, v)) (es.modify j fun e => { e with key := ck, val := cv })
  | [], _, j, h => by simp only [concE] at h; subst h; simp [setAt, concE]
  | (k', v') :: l, es, 0, ⟨e, rest, h0, h1, h2, h3⟩ => by
    subst h0
    exact ⟨{ e with key := ck, val := cv }, rest, by simp, hk, hv, h3⟩
  | (k', v') :: l, es, j + 1, ⟨e, rest, h0, h1, h2, h3⟩ => by
    subst h0
    have : Nat.beq (j + 1) 0 = false := rfl
    simp only [setAt, this, cond_false]
    exact ⟨e, rest.modify j _, by simp, h1, h2, concE_set hk hv j h3⟩
theorem run_setObj_map {P : Program} {w : World} {b : Nat} {ents : Array MapEntry} {clock : Nat} (h : w.heap[b]? = some (.map ents clock)) (o : Obj) : (setObj b o).run P w = .ok () { w with heap := w.heap.setIfInBounds b o } := by
  simp [setObj, Sem.run, h]
theorem aupdate_sound {P : Program} {B : Nat} {w0 : World} {M : Map} {h h' : Heap} {w : World} (r : HRel P B w0 M h w) {t : TypeId} {m k v : AV} (ha : aupdate P h t m k v = some h')
    {cm ck cv : Value} (hm : conc M m = some cm) (hk : conc M k = some ck) (hv : conc M v = some cv) : ∃ w', (Instr.mapUpdate t cm ck cv).run P w = .ok () w' ∧ HRel P B w0 M h' w' ∧ h'.next = h.next := by
  unfold aupdate at ha
  split at ha
  · rename_i kt et hu
    split at ha
    · rename_i d hd
      rw [cond_some] at ha
      obtain ⟨hkk, ha⟩ := ha
      split at ha
      · rename_i i
        split at ha
        · rename_i es hg
          simp only [conc, Option.map_eq_some_iff] at hm
          obtain ⟨p, h1, rfl⟩ := hm
          obtain ⟨ents, clock, h2, h3, hborn⟩ := r.map h1 hg
          have hlt : p.b < w.heap.size := (r.obj i p h1).2.1
          have wr : ∀ (es' : List (AV × AV)) (ents' : Array MapEntry) (clock' : Nat), h.put i (some (.map es')) = some h' → concE M es' ents'.toList → Born ents' clock' → HRel P B w0 M h' { w with heap := w.heap.setIfInBounds p.b (.map ents' clock') } ∧ h'.next = h.next := by
            intro es' ents' clock' hp he hb
            refine ⟨?_, Heap.next_put hp⟩
            refine r.write h1 hg rfl hp (co := .map ents' clock') ?_ (fun k hk => ?_) ?_ rfl rfl rfl ⟨ents', clock', rfl, he, hb⟩
            · simp [hlt]
            · simp [Array.getElem?_setIfInBounds_ne (Ne.symm hk)]
            · simp
          split at ha
          · rename_i j v' hf
            rcases afind_sound hk hf h3 with ⟨a1, _⟩ | ⟨j', v'', cv', e, a1, a2, a3, a4, a5⟩
            · cases a1
            · simp only [Option.some.injEq, Prod.mk.injEq, Nat.zero_add] at a1
              obtain ⟨rfl, _⟩ := a1
              simp only [Nat.zero_add] at a3
              refine ⟨_, ?_, wr _ (ents.modify j fun e => { e with key := ck, val := cv }) clock ha ?_ (hborn.modify j _ fun _ => rfl)⟩
              · have hkey : (((ents[j]?).map (·.key)).getD ck) = e.key := by
                  have : ents[j]? = some e := by simpa using a4
                  simp [this]
                simp only [Instr.mapUpdate, Sem.run_bind, run_underlying hu, Result.andThen_ok, run_getObj_map h2, checkKey_plain hd hkk, findKey_sound hd a3, hkey, Instr.keyThatStays, a5, if_true, Sem.run_pure, run_setObj_map h2]
              · have := concE_set hk hv j h3
                simpa [Array.toList_modify] using this
          · rename_i hf
            rcases afind_sound hk hf h3 with ⟨_, a2⟩ | ⟨j', v'', cv', e, a1, _, _, _, _⟩
            · refine ⟨_, ?_, wr _ (ents.push { key := ck, val := cv, born := clock }) (clock + 1) ha ?_ (hborn.push ck cv)⟩
              · simp only [Instr.mapUpdate, Sem.run_bind, run_underlying hu, Result.andThen_ok, run_getObj_map h2, checkKey_plain hd hkk, findKey_sound hd a2, run_setObj_map h2]
              · have : concE M [(k, v)] [{ key := ck, val := cv, born := clock }] := ⟨_, [], rfl, hk, hv, rfl⟩
                simpa using concE_append h3 this
            · cases a1
          · cases ha
        · cases ha
      · cases ha
    · cases ha
  · cases ha
def amakeMap (h : Heap) : Option (AV × Heap) :=
  match h.add (.map []) with
  | some (i, h') => some (.map i, h')
  | none => none
theorem amakeMap_sound {P : Program} {B : Nat} {w0 : World} {M : Map} {h h' : Heap} {w : World} (r : HRel P B w0 M h w) {v : AV} (ha : amakeMap h = some (v, h')) (t : TypeId) :
    ∃ c w' M', (Instr.makeMap t none).run P w = .ok c w' ∧ Grow h h' M M' ∧ conc M' v = some c ∧ HRel P B w0 M' h' w' := by
  unfold amakeMap at ha
  split at ha
  · rename_i i h'' hadd
    simp only [Option.some.injEq, Prod.mk.injEq] at ha
    obtain ⟨rfl, rfl⟩ := ha
    obtain ⟨_, h2, h3⟩ := r.add hadd (co := .map #[] 0) (cap := 0) ⟨#[], 0, rfl, rfl, by simp, by simp⟩
    exact ⟨.map (some w.heap.size), _, _, by simp [Instr.makeMap], h2, by simp [conc, Map.put_self], h3⟩
  · cases ha
end Go.Am
namespace Go.Am
open Go Go.RowKit
theorem run_app_room {P : Program} (w : World) (t u ty e : TypeId) (i : TypeInfo) (du : TypeDesc) (ht : P.underlying t = some (.slice e)) (hu : P.underlying u = some du) (hdu : du = .string ∨ ∃ e', du = .slice e') (hi : P.info? e = some i)
    (g n cap : Nat) (cur : Array Value) (hg : w.heap[g]? = some (.cells cur e (0, 0))) (x : Value) (m : Nat) (news : List Value) (hl : (Builtin.lenOf x).run P w = .ok m w) (hx : (Builtin.firstCells i.size m x).run P w = .ok news.toArray w)
    (h1 : ∀ v ∈ news, v.oneCell' = true) (hroom : n + m ≤ cap) (hfit : n * i.size + news.length ≤ cur.size) :
    (Builtin.append_ #[t, u] ty #[.slice (some ⟨g, 0, none⟩) n cap, x]).run P w =
      .ok (.slice (some ⟨g, 0, none⟩) (n + m) cap) (w.setRow g (cur.toList.take (n * i.size) ++ news ++ cur.toList.drop (n * i.size + news.length)).toArray) := by
  have hst := run_storeCells_at P g (n * i.size) e news 0 cur w hg (by simpa using hfit) h1
  simp only [Nat.add_zero] at hst
  rcases hdu with rfl | ⟨e', rfl⟩
  · simp [Builtin.append_, run_underlying ht, run_underlying hu, sizeOf, typeInfo, hi, hl, hroom, hx, Addr.add_lit, hst]
  · simp [Builtin.append_, run_underlying ht, run_underlying hu, sizeOf, typeInfo, hi, hl, hroom, hx, Addr.add_lit, hst]
theorem run_app_grow {P : Program} (w : World) (t u ty e : TypeId) (i : TypeInfo) (z : Value) (du : TypeDesc) (ht : P.underlying t = some (.slice e)) (hu : P.underlying u = some du) (hdu : du = .string ∨ ∃ e', du = .slice e') (hi : P.info? e = some i) (hz : i.zero = some z)
    (b : Option Addr) (n cap : Nat) (olds : List Value) (ho : (Builtin.firstCells i.size n (.slice b n cap)).run P w.drew = .ok olds.toArray w.drew) (x : Value) (m : Nat) (news : List Value) (hl : (Builtin.lenOf x).run P w = .ok m w) (hx : (Builtin.firstCells i.size m x).run P w.drew = .ok news.toArray w.drew)
    (hg : cap < n + m) (hbytes : (n + m) * i.bytes ≤ 140737488355328) (hsmall : n + m ≤ 1000000000) :
    (Builtin.append_ #[t, u] ty #[.slice b n cap, x]).run P w =
      .ok (.slice (some ⟨w.heap.size, 0, none⟩) (n + m) (grownCap w (n + m) cap e)) (w.drew.alloc (.cells (olds.toArray ++ news.toArray ++ Builtin.zeroCells z.cells (grownCap w (n + m) cap e - (n + m))) e)) := by
  have hn : ¬ (n + m ≤ cap) := by omega
  have h63' : ¬ (9223372036854775807 < ((n : Int) + (m : Int))) := by omega
  have hf := growslice_fits hg hbytes
  have h48' : ¬ (281474976710656 < Builtin.nextslicecap (n + m) cap * i.bytes) := by omega
  rcases hdu with rfl | ⟨e', rfl⟩
  · simp [Builtin.append_, run_underlying ht, run_underlying hu, sizeOf, typeInfo, zeroValue, hi, hz, hl, hn, h63', h48', Question.forced, hx, ho, newRow, grownCap]
    congr 2
    apply Array.ext'
    simp [List.append_assoc]
  · simp [Builtin.append_, run_underlying ht, run_underlying hu, sizeOf, typeInfo, zeroValue, hi, hz, hl, hn, h63', h48', Question.forced, hx, ho, newRow, grownCap]
    congr 2
    apply Array.ext'
    simp [List.append_assoc]
theorem run_app_none {P : Program} (w : World) (t u ty e : TypeId) (i : TypeInfo) (du : TypeDesc) (ht : P.underlying t = some (.slice e)) (hu : P.underlying u = some du) (hdu : du = .string ∨ ∃ e', du = .slice e') (hi : P.info? e = some i)
    (b : Option Addr) (n cap : Nat) (x : Value) (hl : (Builtin.lenOf x).run P w = .ok 0 w) (hx : (Builtin.firstCells i.size 0 x).run P w = .ok #[] w) (hroom : n ≤ cap) :
    (Builtin.append_ #[t, u] ty #[.slice b n cap, x]).run P w = .ok (.slice b n cap) w := by
  rcases hdu with rfl | ⟨e', rfl⟩
  · cases b <;> simp [Builtin.append_, run_underlying ht, run_underlying hu, sizeOf, typeInfo, hi, hl, hroom, hx, storeCells]
  · cases b <;> simp [Builtin.append_, run_underlying ht, run_underlying hu, sizeOf, typeInfo, hi, hl, hroom, hx, storeCells]
theorem HRel.replace {P : Program} {B : Nat} {w0 : World} {M : Map} {h h1 h' : Heap} {w w' : World} (r : HRel P B w0 M h w) {i : Nat} {p : Loc} (hM : M i = some p) {o0 : AObj} (hlive : h.objs.get i = some o0) (hro0 : o0.isRo = false)
    (hp : h.put i none = some h1) {o : AObj} {i' : Nat} (ha : h1.add o = some (i', h')) {co : Obj} (hw : w'.heap[p.b]? = some co) (hother : ∀ k, k ≠ p.b → w'.heap[k]? = w.heap[k]?) (hs : w'.heap.size = w.heap.size)
    (hos : w'.os = w.os) (htape : w'.tape = w.tape) (hout : w'.output = w.output) (ho : ORel P M p (some o) (some co)) :
    Grow h h' M (M.put i' p) ∧ HRel P B w0 (M.put i' p) h' w' := by
  have hg1 := Heap.get_put hp
  have hn1 := Heap.next_put hp
  have hB := r.obj i p hM
  have hBB := hB.1 _ hlive hro0
  rw [Heap.add_eq] at ha
  split at ha
  · rename_i t ht
    simp only [Option.some.injEq, Prod.mk.injEq] at ha
    obtain ⟨rfl, rfl⟩ := ha
    have hget := T.get_set ht
    have hi : M h1.next = none := r.fresh _ (by omega)
    have hle := Map.le_put (p := p) hi
    refine ⟨⟨hle, fun j hj => by simp only [Map.put, Nat.ne_of_lt (show j < h1.next by omega), if_false], by simp only; omega⟩, ⟨r.belowM.step ⟨hos, htape, hout, by omega, fun k hk => hother k (by omega)⟩ (fun k o hk ho => by rw [hother k (fun e => by subst e; rw [r.noMark hM hlive hro0 hk] at ho; cases ho)]; exact hk), r.base, ?_, ?_, ?_⟩⟩
    · intro j hj
      simp only at hj
      have : j ≠ h1.next := by omega
      simp only [Map.put, this, if_false]
      exact r.fresh j (by omega)
    · intro j q hj
      unfold Map.put at hj
      split at hj
      · rename_i e
        subst e
        simp only [Option.some.injEq] at hj
        subst hj
        refine ⟨fun _ _ _ => hBB, by omega, ?_⟩
        simp only [hget, if_true]
        rw [hw]
        exact ho.mono hle
      · rename_i e
        obtain ⟨k1, k2, k3⟩ := r.obj j q hj
        simp only [hget, e, if_false, hg1]
        split
        · exact ⟨fun _ h => (by cases h), by omega, True.intro⟩
        · rename_i e'
          refine ⟨k1, by omega, ?_⟩
          by_cases hb : q.b = p.b
          · cases hl : h.objs.get j with
            | none => exact True.intro
            | some oj => exact absurd (r.inj i j p q hM hj hb.symm ⟨o0, hlive, hro0⟩ (by rw [hl]; rfl)).symm e'
          · rw [hother _ hb]
            exact k3.mono hle
    · have key : ∀ j q, M j = some q → p.b = q.b → j ≠ h1.next → (h1.objs.get j).isSome = true → False := by
        intro j q hj hpq hjn lj
        rw [hg1] at lj
        split at lj
        · cases lj
        · rename_i e
          exact e (r.inj i j p q hM hj hpq ⟨o0, hlive, hro0⟩ lj).symm
      intro j k q q' hj hk hqq lj lk
      unfold Map.put at hj hk
      simp only [hget] at lj lk
      split at hj <;> split at hk
      · rename_i e1 e2; rw [e1, e2]
      · rename_i e1 e2
        simp only [Option.some.injEq] at hj
        subst hj
        simp only [e2, if_false] at lk
        exact (key k q' hk hqq e2 lk).elim
      · rename_i e1 e2
        simp only [Option.some.injEq] at hk
        subst hk
        simp only [e1, if_false] at lj
        obtain ⟨oj, hoj, _⟩ := lj
        exact (key j q hj hqq.symm e1 (by rw [hoj]; rfl)).elim
      · rename_i e1 e2
        simp only [e1, e2, if_false, hg1] at lj lk
        split at lj
        · obtain ⟨o, ho, _⟩ := lj; cases ho
        · split at lk
          · cases lk
          · exact r.inj j k q q' hj hk hqq lj lk
  · cases ha
def asource (P : Program) (h : Heap) (u : TypeId) (es : Nat) (x : AV) : Option (Nat × List AV) :=
  match P.underlying u, x with
  | some (.slice _), .nilslice => some (0, [])
  | some (.slice _), .slice j k m es' => bif Nat.beq es es' then
      match acells h j (k * es) (m * es) with
      | some l => some (m, l)
      | none => none
    else none
  | some .string, .str s => bif Nat.beq es 1 then some (s.length, s.map fun b => .int .u8 (.ofNat b.toNat)) else none
  | _, _ => none
theorem asource_sound {P : Program} {B : Nat} {w0 : World} {M : Map} {h : Heap} {w : World} (r : HRel P B w0 M h w) {u : TypeId} {es : Nat} {x : AV} {m : Nat} {l : List AV} (ha : asource P h u es x = some (m, l))
    {cx : Value} (hx : conc M x = some cx) : ∃ du cl, P.underlying u = some du ∧ (du = .string ∨ ∃ e', du = .slice e') ∧ concs M l = some cl ∧ l.length = m * es ∧ (Builtin.lenOf cx).run P w = .ok m w ∧
      (Builtin.firstCells es m cx).run P w = .ok cl.toArray w ∧ (Builtin.firstCells es m cx).run P w.drew = .ok cl.toArray w.drew := by
  unfold asource at ha
  split at ha
  · rename_i e' hu
    simp only [Option.some.injEq, Prod.mk.injEq] at ha
    obtain ⟨rfl, rfl⟩ := ha
    simp only [conc, Option.some.injEq] at hx
    subst hx
    exact ⟨_, [], hu, .inr ⟨_, rfl⟩, rfl, by simp, by simp [Builtin.lenOf], by simp [Builtin.firstCells], by simp [Builtin.firstCells]⟩
  · rename_i e' j k m' es' hu
    rw [cond_some] at ha
    obtain ⟨he, ha⟩ := ha
    have := Nat.eq_of_beq_eq_true he
    subst this
    split at ha
    · rename_i l' hl
      simp only [Option.some.injEq, Prod.mk.injEq] at ha
      obtain ⟨rfl, rfl⟩ := ha
      obtain ⟨p, h1, h2, rfl⟩ := conc_slice.1 hx
      obtain ⟨cl, h3, h4, h5⟩ := cells_sound r hl h1
      have hlen := concs_length h3
      refine ⟨_, cl, hu, .inr ⟨_, rfl⟩, h3, by omega, by simp [Builtin.lenOf], ?_, ?_⟩
      · exact run_firstCells_some w es m' _ m' _ cl h4 (fun j v hj => by rw [Addr.add_lit]; exact h5 j v hj)
      · exact run_firstCells_some w.drew es m' _ m' _ cl h4 (fun j v hj => by rw [Addr.add_lit]; exact h5 j v hj)
    · cases ha
  · rename_i s hu
    rw [cond_some] at ha
    obtain ⟨he, ha⟩ := ha
    have := Nat.eq_of_beq_eq_true he
    subst this
    simp only [Option.some.injEq, Prod.mk.injEq] at ha
    obtain ⟨rfl, rfl⟩ := ha
    simp only [conc, Option.some.injEq] at hx
    subst hx
    have hsz : (⟨s.toArray⟩ : ByteArray).size = s.length := by simp [ByteArray.size]
    have hf : ∀ w : World, (Builtin.firstCells 1 s.length (.string ⟨s.toArray⟩)).run P w = .ok (s.map fun b => Value.int .u8 b.toNat).toArray w := by
      intro w
      simp only [Builtin.firstCells, Sem.run_pure]
      congr 1
      apply Array.ext'
      have hext : (⟨s.toArray⟩ : ByteArray).extract 0 s.length = ⟨s.toArray⟩ := by
        apply ByteArray.ext
        apply Array.ext'
        simp
      rw [hext]
      simp
    refine ⟨_, s.map fun b => Value.int .u8 b.toNat, hu, .inl rfl, ?_, by simp, by simp [Builtin.lenOf, hsz], hf w, hf w.drew⟩
    refine concs_of_get (by simp) fun j a hj => ?_
    rw [List.getElem?_map] at hj ⊢
    cases hs : s[j]? with
    | none => simp [hs] at hj
    | some b =>
      simp only [hs, Option.map_some, Option.some.injEq] at hj
      subst hj
      exact ⟨_, rfl, rfl⟩
  · cases ha
def elemIs (h : Heap) (j : Nat) (e : TypeId) : Bool :=
  match h.objs.get j with
  | some (.cells e0 _ _ _) => Nat.beq e0 e
  | _ => false
def aappend (P : Program) (h : Heap) (t u : TypeId) (s x : AV) : Option (AV × Heap) :=
  match P.underlying t with
  | some (.slice e) =>
    match P.info? e with
    | some i =>
      let es := P.cellsOf e
      match azero P e with
      | some z => bif Nat.beq z.cells.length es then bif Nat.blt 0 es then
        match asource P h u es x with
        | some (m, news) => bif allOne news then
          bif Nat.beq m 0 then (match s with
            | .nilslice => some (s, h)
            | .slice _ _ _ _ => some (s, h)
            | _ => none) else
          match s with
          | .nilslice => bif Nat.ble m 1000000 then bif Nat.ble (m * i.bytes) 1000000000 then
              match h.add (.cells e es news false) with
              | some (j, h') => some (.slice j 0 m es, h')
              | none => none
            else none else none
          | .slice j k n es' => bif elemIs h j e then bif Nat.beq k 0 then bif Nat.beq es es' then bif Nat.ble (n + m) 1000000 then bif Nat.ble ((n + m) * i.bytes) 1000000000 then
              match acells h j 0 (n * es) with
              | some olds => match h.put j none with
                | some h1 => match h1.add (.cells e es (olds ++ news) false) with
                  | some (j', h') => some (.slice j' 0 (n + m) es, h')
                  | none => none
                | none => none
              | none => none
            else none else none else none else none else none
          | _ => none
          else none
        | none => none
        else none else none
      | none => none
    | none => none
  | _ => none
theorem aappend_sound {P : Program} {B : Nat} {w0 : World} {M : Map} {h h' : Heap} {w : World} (r : HRel P B w0 M h w) {t u ty : TypeId} {s x v : AV} (ha : aappend P h t u s x = some (v, h'))
    {cs cx : Value} (hs : conc M s = some cs) (hx : conc M x = some cx) :
    ∃ c w' M', (Builtin.append_ #[t, u] ty #[cs, cx]).run P w = .ok c w' ∧ Grow h h' M M' ∧ conc M' v = some c ∧ HRel P B w0 M' h' w' := by
  unfold aappend at ha
  split at ha
  · rename_i e ht
    split at ha
    · rename_i i hi
      have hes : P.cellsOf e = i.size := by simp [Program.cellsOf, hi]
      have hinfo : (P.info? e).isSome = true := by rw [hi]; rfl
      split at ha
      · rename_i z hz
        simp only [cond_some] at ha
        obtain ⟨hzl, h0, ha⟩ := ha
        have hzl' := Nat.eq_of_beq_eq_true hzl
        have h0' : 0 < i.size := by rw [← hes]; simpa [blt_iff] using h0
        obtain ⟨cz, z1, hz2⟩ : ∃ cz, conc M z = some cz ∧ i.zero = some cz := by
          unfold azero at hz
          rw [hi] at hz
          simp only at hz
          split at hz
          · rename_i cz hcz
            exact ⟨cz, absV_sound M hz, hcz⟩
          · cases hz
        have hczs : cz.cells.size = i.size := by
          have := concs_length (conc_cells z1)
          have h3 : cz.cells.toList.length = cz.cells.size := by simp
          omega
        split at ha
        · rename_i m news hsrc
          simp only [cond_some] at ha
          obtain ⟨hone, ha⟩ := ha
          obtain ⟨du, cl, hu, hdu, hcl, hlen, hl, hf, hf'⟩ := asource_sound r hsrc hx
          have hone' := allOne_spec hcl hone
          have hclen := concs_length hcl
          rw [hes] at hf hf' hlen
          cases hm0 : Nat.beq m 0 with
          | true =>
            simp only [hm0, cond_true] at ha
            have := Nat.eq_of_beq_eq_true hm0
            subst this
            have hcl0 : cl = [] := List.eq_nil_of_length_eq_zero (by rw [Nat.zero_mul] at hlen; omega)
            subst hcl0
            split at ha
            · simp only [Option.some.injEq, Prod.mk.injEq] at ha
              obtain ⟨rfl, rfl⟩ := ha
              simp only [conc, Option.some.injEq] at hs
              subst hs
              exact ⟨_, w, M, run_app_none w t u ty e i du ht hu hdu hi Option.none 0 0 cx hl hf (Nat.le_refl _), Grow.refl _ M, rfl, r⟩
            · simp only [Option.some.injEq, Prod.mk.injEq] at ha
              obtain ⟨rfl, rfl⟩ := ha
              obtain ⟨p, k1, k2, rfl⟩ := conc_slice.1 hs
              exact ⟨_, w, M, run_app_none w t u ty e i du ht hu hdu hi _ _ _ cx hl hf (by omega), Grow.refl _ M, hs, r⟩
            · cases ha
          | false =>
            have hm : m ≠ 0 := Nat.ne_of_beq_eq_false hm0
            simp only [hm0, cond_false] at ha
            split at ha
            · simp only [cond_some] at ha
              obtain ⟨g1, g2, ha⟩ := ha
              have g1' : m ≤ 1000000 := by simpa using g1
              have g2' : m * i.bytes ≤ 1000000000 := by simpa using g2
              split at ha
              · rename_i j h'' hadd
                simp only [Option.some.injEq, Prod.mk.injEq] at ha
                obtain ⟨rfl, rfl⟩ := ha
                simp only [conc, Option.some.injEq] at hs
                subst hs
                have hrun := run_app_grow w t u ty e i cz du ht hu hdu hi hz2 Option.none 0 0 [] (by simp [Builtin.firstCells]) cx m cl hl hf' (by omega) (by rw [Nat.zero_add]; omega) (by omega)
                simp only [Nat.zero_add] at hrun
                have hge := grownCap_ge w m 0 e
                have hmax := grownCap_le_maxLen w m 0 e (by simp only [maxLen]; omega)
                have hd : HRel P B w0 M h w.drew := r.drew
                obtain ⟨_, k2, k3⟩ := hd.add hadd (co := .cells (([] : List Value).toArray ++ cl.toArray ++ Builtin.zeroCells cz.cells (grownCap w m 0 e - m)) e) (cap := grownCap w m 0 e)
                  ⟨rfl, rfl, hinfo, by omega, hmax, _, rfl, by
                    simp only [Array.size_append, List.size_toArray, size_zeroCells, hczs, List.length_nil, hclen, hlen, Nat.zero_add, ← Nat.add_mul, hes]
                    congr 1; omega, by simp [hclen], nofun, fun jj a hj => by
                    obtain ⟨y, y1, y2⟩ := concs_get hcl hj
                    refine ⟨y, y2, ?_⟩
                    have hlt : jj < cl.length := (List.getElem?_eq_some_iff.1 y1).1
                    rw [Array.getElem?_append_left (by simp; omega), Array.getElem?_append_right (by simp)]
                    simpa using y1⟩
                refine ⟨_, _, _, hrun, k2, conc_slice.2 ⟨_, Map.put_self _ _ _, by simp; omega, by simp⟩, k3⟩
              · cases ha
            · rename_i j k n es'
              simp only [cond_some] at ha
              obtain ⟨ge, g0, g1, g2, g3, ha⟩ := ha
              have := Nat.eq_of_beq_eq_true g0
              subst this
              have := Nat.eq_of_beq_eq_true g1
              subst this
              have g2' : n + m ≤ 1000000 := by simpa using g2
              have g3' : (n + m) * i.bytes ≤ 1000000000 := by simpa using g3
              split at ha
              · rename_i olds holds
                split at ha
                · rename_i h1 hput
                  split at ha
                  · rename_i j' h'' hadd
                    simp only [Option.some.injEq, Prod.mk.injEq] at ha
                    obtain ⟨rfl, rfl⟩ := ha
                    obtain ⟨p, k1, k2, rfl⟩ := conc_slice.1 hs
                    simp only [Nat.zero_mul, Nat.sub_zero, Nat.zero_add, Nat.add_zero] at k2 ⊢
                    obtain ⟨co, o1, o2, o3⟩ := cells_sound r holds k1
                    have holen := concs_length o1
                    have hall : concs M (olds ++ news) = some (co ++ cl) := concs_append o1 hcl
                    have hob := r.obj j p k1
                    unfold acells at holds
                    split at holds
                    · rename_i e0 es0 c0 ex0 hg0
                      rw [hg0] at hob
                      obtain ⟨hb1, hb2, p0, p1, p2, p3, p4, arr, p5, p6, p7, p8, p9⟩ := hob
                      rw [p0]
                      rw [p0] at o3
                      simp only [Nat.zero_add, Nat.add_zero] at o3
                      have hee : e0 = e := by
                        unfold elemIs at ge
                        rw [hg0] at ge
                        exact Nat.eq_of_beq_eq_true ge
                      subst hee
                      · have hesz : es0 = i.size := by rw [← p1, hes]
                        by_cases hroom : n + m ≤ p.cap
                        · have hfit : n * i.size + cl.length ≤ arr.size := by
                            rw [hclen, hlen, ← Nat.add_mul, p6, hesz]
                            exact Nat.mul_le_mul_right _ hroom
                          have hrun := run_app_room w t u ty e0 i du ht hu hdu hi p.b n p.cap arr p5 cx m cl hl hf hone' hroom hfit
                          have hco : arr.toList.take (n * i.size) = co := by
                            apply List.ext_getElem?
                            intro jj
                            by_cases hjj : jj < n * i.size
                            · have hjc : jj < co.length := by rw [o2, hes]; exact hjj
                              have := o3 jj co[jj] (by simp [hjc])
                              simp only [World.cell?, p5] at this
                              rw [List.getElem?_take, if_pos hjj]
                              simp at this
                              simp [hjc, this]
                            · rw [List.getElem?_eq_none (by simp; omega), List.getElem?_eq_none (by rw [o2, hes]; omega)]
                          rw [hco] at hrun
                          obtain ⟨q1, q2⟩ := r.replace k1 hg0 rfl hput hadd (setRow_heap w p.b arr (co ++ cl ++ arr.toList.drop (n * i.size + cl.length)).toArray e0 _ p5) (fun k hk => setRow_other w p.b k _ hk) (by simp [World.setRow]) rfl rfl rfl
                            ⟨p0, rfl, hinfo, by omega, p4, _, rfl, by simp [o2, hes, p6, hesz]; rw [p6, hesz] at hfit; omega, by
                              have := concs_length hall
                              simp at this ⊢; omega, nofun, fun jj a hj => by
                              obtain ⟨y, y1, y2⟩ := concs_get hall hj
                              refine ⟨y, y2, ?_⟩
                              have hlt : jj < (co ++ cl).length := (List.getElem?_eq_some_iff.1 y1).1
                              simp only [List.getElem?_toArray]
                              rw [List.getElem?_append_left hlt]
                              exact y1⟩
                          exact ⟨_, _, _, hrun, q1, conc_slice.2 ⟨_, Map.put_self _ _ _, by simp; omega, by simp [p0]⟩, q2⟩
                        · have ho : (Builtin.firstCells i.size n (.slice (some ⟨p.b, 0, none⟩) n p.cap)).run P w.drew = .ok co.toArray w.drew :=
                            run_firstCells_some w.drew i.size n _ n _ co (by rw [o2, hes]) (fun jj v hj => by rw [Addr.add_lit, Nat.zero_add]; exact o3 jj v hj)
                          have hrun := run_app_grow w t u ty e0 i cz du ht hu hdu hi hz2 _ n p.cap co ho cx m cl hl hf' (by omega) (by omega) (by omega)
                          have hge := grownCap_ge w (n + m) p.cap e0
                          have hmax := grownCap_le_maxLen w (n + m) p.cap e0 (by simp only [maxLen]; omega)
                          have hd : HRel P B w0 M h1 w.drew := (r.kill hput).drew
                          obtain ⟨_, q2, q3⟩ := hd.add hadd (co := .cells (co.toArray ++ cl.toArray ++ Builtin.zeroCells cz.cells (grownCap w (n + m) p.cap e0 - (n + m))) e0) (cap := grownCap w (n + m) p.cap e0)
                            ⟨rfl, rfl, hinfo, by omega, hmax, _, rfl, by
                              simp only [Array.size_append, List.size_toArray, size_zeroCells, hczs, hclen, hlen, o2, hes, ← Nat.add_mul]
                              congr 1; omega, by
                              have := concs_length hall
                              simp at this ⊢; omega, nofun, fun jj a hj => by
                              obtain ⟨y, y1, y2⟩ := concs_get hall hj
                              refine ⟨y, y2, ?_⟩
                              have hlt : jj < (co ++ cl).length := (List.getElem?_eq_some_iff.1 y1).1
                              rw [Array.getElem?_append_left (by simpa using hlt)]
                              simpa [List.getElem?_append] using y1⟩
                          exact ⟨_, _, _, hrun, (Grow.same M (Heap.next_put hput)).trans q2, conc_slice.2 ⟨_, Map.put_self _ _ _, by simp; omega, by simp⟩, q3⟩
                    · rename_i e0 es0 c0 hg0
                      unfold elemIs at ge
                      rw [hg0] at ge
                      cases ge
                    · cases holds
                  · cases ha
                · cases ha
              · cases ha
            · cases ha
        · cases ha
      · cases ha
    · cases ha
  · cases ha
end Go.Am
