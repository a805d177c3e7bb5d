/- Part of the proof: AsCore, AsUp, AsDraw, AsOps, AsQuiet. -/
import Derived.Test.YtijdeggmmpfjeaaGreatDoorM7
set_option linter.unusedSimpArgs false
set_option linter.unusedVariables false
set_option linter.unusedSectionVars false
namespace Go.Am
open Go Go.RowKit
def Keep (N : Nat) (M M' : Map) : Prop := ∀ i, i < N → M' i = M i
theorem Keep.refl (N : Nat) (M : Map) : Keep N M M := fun _ _ => rfl
theorem Keep.trans {N : Nat} {A B C : Map} (h : Keep N A B) (k : Keep N B C) : Keep N A C := fun i hi => (k i hi).trans (h i hi)
theorem Grow.keepN {N : Nat} {h h' : Heap} {M M' : Map} (g : Grow h h' M M') (hN : N ≤ h.next) : Keep N M M' := fun i hi => g.keep i (Nat.lt_of_lt_of_le hi hN)
abbrev APost := AExit → Env → Heap → Prop
def RS (P : Program) (N n : Nat) (c : Code) (env : Env) (h : Heap) (Post : APost) : Prop := ∀ B w0 M a w, HRel P B w0 M h w → N ≤ h.next → ERel M n env a → ∀ Q : Exit → Act → World → Prop,
  (∀ e env' h' M' a' w', Post e env' h' → Keep N M M' → N ≤ h'.next → HRel P B w0 M' h' w' → ERel M' n env' a' → Q e.conc a' w') → c.wp P Q a w
def ThenS (P : Program) (N n : Nat) (y : Code) (Post : APost) : APost
  | .normal, env, h => RS P N n y env h Post
  | .exit i, env, h => Post (.exit i) env h
  | .ret, env, h => Post .ret env h
theorem RS.seq {P : Program} {N n : Nat} {x y : Code} {env : Env} {h : Heap} {Post : APost} (r : RS P N n x env h (ThenS P N n y Post)) : RS P N n (.seq x y) env h Post := by
  intro B w0 M a w k1 kN k2 Q hq
  refine wp_seq (r B w0 M a w k1 kN k2 _ ?_)
  intro e env1 h1 M1 a1 w1 hp g1 n1 r1 re1
  cases e with
  | normal => exact hp B w0 M1 a1 w1 r1 n1 re1 Q fun e env2 h2 M2 a2 w2 p g2 n2 r2 re2 => hq e env2 h2 M2 a2 w2 p (g1.trans g2) n2 r2 re2
  | exit i => exact hq (.exit i) env1 h1 M1 a1 w1 hp g1 n1 r1 re1
  | ret => exact hq .ret env1 h1 M1 a1 w1 hp g1 n1 r1 re1
def InB (id : Nat) (Post : APost) : APost
  | .normal, env, h => Post .normal env h
  | .exit i, env, h => bif Nat.beq i id then Post .normal env h else Post (.exit i) env h
  | .ret, env, h => Post .ret env h
theorem RS.block {P : Program} {N n id : Nat} {c : Code} {env : Env} {h : Heap} {Post : APost} (r : RS P N n c env h (InB id Post)) : RS P N n (.block id c) env h Post := by
  intro B w0 M a w k1 kN k2 Q hq
  refine wp_block (r B w0 M a w k1 kN k2 _ ?_)
  intro e env1 h1 M1 a1 w1 hp g1 n1 r1 re1
  cases e with
  | normal => exact hq .normal env1 h1 M1 a1 w1 hp g1 n1 r1 re1
  | ret => exact hq .ret env1 h1 M1 a1 w1 hp g1 n1 r1 re1
  | exit j =>
    show (if j = id then Q .normal a1 w1 else Q (.exit j) a1 w1)
    simp only [InB] at hp
    cases hj : Nat.beq j id with
    | true =>
      simp only [hj, cond_true] at hp
      rw [if_pos (Nat.eq_of_beq_eq_true hj)]
      exact hq .normal env1 h1 M1 a1 w1 hp g1 n1 r1 re1
    | false =>
      simp only [hj, cond_false] at hp
      rw [if_neg (Nat.ne_of_beq_eq_false hj)]
      exact hq (.exit j) env1 h1 M1 a1 w1 hp g1 n1 r1 re1
theorem RS.condT {P : Program} {N n : Nat} {c : Operand} {x y : Code} {env : Env} {h : Heap} {Post : APost} (hc : aeval env c = some (.bool true)) (r : RS P N n x env h Post) : RS P N n (.cond c x y) env h Post := by
  intro B w0 M a w k1 kN k2 Q hq
  have := k2.ev _ _ hc
  simp only [conc, Option.some.injEq] at this
  exact wp_cond_true this.symm (r B w0 M a w k1 kN k2 Q hq)
theorem RS.condF {P : Program} {N n : Nat} {c : Operand} {x y : Code} {env : Env} {h : Heap} {Post : APost} (hc : aeval env c = some (.bool false)) (r : RS P N n y env h Post) : RS P N n (.cond c x y) env h Post := by
  intro B w0 M a w k1 kN k2 Q hq
  have := k2.ev _ _ hc
  simp only [conc, Option.some.injEq] at this
  exact wp_cond_false this.symm (r B w0 M a w k1 kN k2 Q hq)
theorem RS.skip {P : Program} {N n : Nat} {env : Env} {h : Heap} {Post : APost} (hp : Post .normal env h) : RS P N n .skip env h Post :=
  fun _ _ M a w k1 kN k2 _ hq => wp_skip (hq .normal env h M a w hp (Keep.refl _ _) kN k1 k2)
theorem RS.label {P : Program} {N n : Nat} {i : Nat} {env : Env} {h : Heap} {Post : APost} (hp : Post .normal env h) : RS P N n (.label i) env h Post :=
  fun _ _ M a w k1 kN k2 _ hq => wp_label (hq .normal env h M a w hp (Keep.refl _ _) kN k1 k2)
theorem RS.exit {P : Program} {N n : Nat} {i : Nat} {env : Env} {h : Heap} {Post : APost} (hp : Post (.exit i) env h) : RS P N n (.exit i) env h Post :=
  fun _ _ M a w k1 kN k2 _ hq => wp_exit (hq (.exit i) env h M a w hp (Keep.refl _ _) kN k1 k2)
theorem RS.ret {P : Program} {N n : Nat} {env : Env} {h : Heap} {Post : APost} (hp : Post .ret env h) : RS P N n .ret env h Post :=
  fun _ _ M a w k1 kN k2 _ hq => wp_ret (hq .ret env h M a w hp (Keep.refl _ _) kN k1 k2)
theorem ThenS.n {P : Program} {N n : Nat} {y : Code} {Post : APost} {env : Env} {h : Heap} (r : RS P N n y env h Post) : ThenS P N n y Post .normal env h := r
theorem ThenS.r {P : Program} {N n : Nat} {y : Code} {Post : APost} {env : Env} {h : Heap} (r : Post .ret env h) : ThenS P N n y Post .ret env h := r
theorem ThenS.e {P : Program} {N n i : Nat} {y : Code} {Post : APost} {env : Env} {h : Heap} (r : Post (.exit i) env h) : ThenS P N n y Post (.exit i) env h := r
theorem InB.n {id : Nat} {Post : APost} {env : Env} {h : Heap} (r : Post .normal env h) : InB id Post .normal env h := r
theorem InB.r {id : Nat} {Post : APost} {env : Env} {h : Heap} (r : Post .ret env h) : InB id Post .ret env h := r
theorem InB.e {id i : Nat} {Post : APost} {env : Env} {h : Heap} (hb : Nat.beq i id = true) (r : Post .normal env h) : InB id Post (.exit i) env h := by simp only [InB, hb, cond_true]; exact r
theorem InB.o {id i : Nat} {Post : APost} {env : Env} {h : Heap} (hb : Nat.beq i id = false) (r : Post (.exit i) env h) : InB id Post (.exit i) env h := by simp only [InB, hb, cond_false]; exact r
def RO (P : Program) (N n : Nat) (ops : Array Oper) (l : List Oper) (env : Env) (h : Heap) (Post : APost) : Prop := ∀ k, (∀ j : Nat, l[j]? = ops[k + j]?) → ∀ B w0 M a w, HRel P B w0 M h w → N ≤ h.next → ERel M n env a → ∀ Q : Exit → Act → World → Prop,
  (∀ env' h' M' a' w', Post .normal env' h' → Keep N M M' → N ≤ h'.next → HRel P B w0 M' h' w' → ERel M' n env' a' → Q .normal a' w') → wpOps P ops Q (List.range' k l.length) a w
theorem RO.nil {P : Program} {N n : Nat} {ops : Array Oper} {env : Env} {h : Heap} {Post : APost} (hp : Post .normal env h) : RO P N n ops [] env h Post :=
  fun _ _ _ _ M a w r hN re _ hq => hq env h M a w hp (Keep.refl _ _) hN r re
theorem RO.step {P : Program} {N n : Nat} {ops : Array Oper} {o : Oper} {l : List Oper} {env env1 : Env} {h h1 : Heap} {v : AV} {Post : APost} (hw : awanted ops (aeval env) o = some true) (ho : OSem P o (aeval env) h v h1) (hp : aput env n o.dst v = some env1)
    (rest : RO P N n ops l env1 h1 Post) : RO P N n ops (o :: l) env h Post := by
  intro k hl B w0 M a w r hN re Q hq
  have h0 : ops[k]? = some o := by simpa using (hl 0).symm
  have hl' : ∀ j : Nat, l[j]? = ops[k + 1 + j]? := fun j => by
    have := hl (j + 1)
    rw [show k + 1 + j = k + (j + 1) by omega]
    simpa using this
  have hg : ∀ d v, aeval env (.tmp d) = some v → ∃ c, conc M v = some c ∧ a.tmps[d]? = some c := fun d v e => re.get d v e
  rw [List.length_cons, List.range'_succ, wpOps_cons]
  unfold wpOp
  rw [h0]
  simp only
  rw [awanted_sound hg hw]
  simp only [if_true]
  refine .inl (ho B w0 M w a r re.ev _ _ fun M' c w' j1 j2 j3 => ?_)
  exact rest (k + 1) hl' B w0 M' _ w' j3 (Nat.le_trans hN j1.next) ((re.mono j1.le).put hp j2) Q fun env' h' M'' a' w'' i0 i1 i2 i3 i4 => hq env' h' M'' a' w'' i0 ((j1.keepN hN).trans i1) i2 i3 i4
theorem RO.skip {P : Program} {N n : Nat} {ops : Array Oper} {o : Oper} {l : List Oper} {env env1 : Env} {h : Heap} {Post : APost} (hw : awanted ops (aeval env) o = some false) (hp : aput env n o.dst (.tuple []) = some env1)
    (rest : RO P N n ops l env1 h Post) : RO P N n ops (o :: l) env h Post := by
  intro k hl B w0 M a w r hN re Q hq
  have h0 : ops[k]? = some o := by simpa using (hl 0).symm
  have hl' : ∀ j : Nat, l[j]? = ops[k + 1 + j]? := fun j => by
    have := hl (j + 1)
    rw [show k + 1 + j = k + (j + 1) by omega]
    simpa using this
  have hg : ∀ d v, aeval env (.tmp d) = some v → ∃ c, conc M v = some c ∧ a.tmps[d]? = some c := fun d v e => re.get d v e
  rw [List.length_cons, List.range'_succ, wpOps_cons]
  unfold wpOp
  rw [h0]
  simp only
  rw [awanted_sound hg hw]
  simp only [Bool.false_eq_true, if_false]
  exact rest (k + 1) hl' B w0 M _ w r hN (re.put hp (conc_undef M)) Q hq
theorem RO.stepB {P : Program} {N n : Nat} {ops : Array Oper} {o : Oper} {l : List Oper} {env envT envF : Env} {h h1 : Heap} {b : Bool} {Post : APost} (hw : awanted ops (aeval env) o = some true) (ho : OSem P o (aeval env) h (.bool b) h1)
    (hpT : aput env n o.dst (.bool true) = some envT) (hpF : aput env n o.dst (.bool false) = some envF) (rT : b = true → RO P N n ops l envT h1 Post) (rF : b = false → RO P N n ops l envF h1 Post) : RO P N n ops (o :: l) env h Post := by
  cases b with
  | true => exact .step hw ho hpT (rT rfl)
  | false => exact .step hw ho hpF (rF rfl)
theorem RS.go {P : Program} {N n id : Nat} {ops : Array Oper} {env : Env} {h : Heap} {Post : APost} (k : RO P N n ops ops.toList env h Post) : RS P N n (.region id ops false) env h Post := by
  intro B w0 M a w r hN re Q hq
  refine wp_region ?_
  rw [List.range_eq_range']
  have := k 0 (by simp) B w0 M a w r hN re Q fun env' h' M' a' w' p => hq .normal env' h' M' a' w' p
  simpa using this
def RenV (s : List Nat) (v v0 : AV) : Prop := ∀ M : Map, conc (M.via s) v0 = conc M v
def RenVs (s : List Nat) (v v0 : List AV) : Prop := ∀ M : Map, concs (M.via s) v0 = concs M v
theorem RenV.plain {s : List Nat} {v : AV} (h : plain1 v = true) : RenV s v v := fun M => plain1_conc h _ _
theorem RenVs.plain {s : List Nat} {v : List AV} (h : plains v = true) : RenVs s v v := fun M => plains_concs h
theorem RenVs.nil {s : List Nat} : RenVs s [] [] := fun _ => rfl
theorem RenVs.cons {s : List Nat} {v v0 : AV} {l l0 : List AV} (h : RenV s v v0) (k : RenVs s l l0) : RenVs s (v :: l) (v0 :: l0) := fun M => by simp only [concs, h M, k M]
theorem RenV.agg {s : List Nat} {l l0 : List AV} (h : RenVs s l l0) : RenV s (.agg l) (.agg l0) := fun M => by simp only [conc, h M]
theorem RenV.tuple {s : List Nat} {l l0 : List AV} (h : RenVs s l l0) : RenV s (.tuple l) (.tuple l0) := fun M => by simp only [conc, h M]
theorem via_get {s : List Nat} {j i : Nat} (h : s[j]? = some i) (M : Map) : M.via s j = M i := by simp [Map.via, h]
theorem RenV.slice {s : List Nat} {j i k len es : Nat} (h : s[j]? = some i) : RenV s (.slice i k len es) (.slice j k len es) := fun M => by simp only [conc, via_get h]
theorem RenV.ptr {s : List Nat} {j i k : Nat} (h : s[j]? = some i) : RenV s (.ptr i k) (.ptr j k) := fun M => by simp only [conc, via_get h]
theorem RenV.map {s : List Nat} {j i : Nat} (h : s[j]? = some i) : RenV s (.map i) (.map j) := fun M => by simp only [conc, via_get h]
theorem RenV.nilslice {s : List Nat} : RenV s .nilslice .nilslice := fun _ => rfl
inductive RenO (s : List Nat) : Option AObj → Option AObj → Prop where
  | none {o : Option AObj} : RenO s o none
  | cells {e : TypeId} {es : Nat} {c c0 : List AV} {x : Bool} (h : RenVs s c c0) : RenO s (some (.cells e es c x)) (some (.cells e es c0 x))
  | less {e : TypeId} {es : Nat} {c c0 r : List AV} {x : Bool} (h : RenVs s c (c0 ++ r)) : RenO s (some (.cells e es c x)) (some (.cells e es c0 false))
  | ro {e : TypeId} {es : Nat} {c c0 : List AV} (h : RenVs s c c0) : RenO s (some (.ro e es c)) (some (.ro e es c0))
  | iter {t : List UInt8} {p : Nat} : RenO s (some (.iter t p)) (some (.iter t p))
  | map {l l0 : List (AV × AV)} (h1 : RenVs s (l.map Prod.fst) (l0.map Prod.fst)) (h2 : RenVs s (l.map Prod.snd) (l0.map Prod.snd)) : RenO s (some (.map l)) (some (.map l0))
theorem RenVs.get {s : List Nat} {c c0 : List AV} (h : RenVs s c c0) {M : Map} {f : Nat → Option Value} (hf : ∀ (j : Nat) (a : AV), c[j]? = some a → ∃ x, conc M a = some x ∧ f j = some x) :
    c0.length = c.length ∧ ∀ (j : Nat) (a : AV), c0[j]? = some a → ∃ x, conc (M.via s) a = some x ∧ f j = some x := by
  have hc : ∃ cl, concs M c = some cl := by
    suffices ∀ (c : List AV), (∀ a ∈ c, ∃ x, conc M a = some x) → ∃ cl, concs M c = some cl by
      refine this c fun a ha => ?_
      obtain ⟨j, hj⟩ := List.mem_iff_getElem?.1 ha
      obtain ⟨x, hx, _⟩ := hf j a hj
      exact ⟨x, hx⟩
    intro c
    induction c with
    | nil => intro _; exact ⟨[], rfl⟩
    | cons a c ih =>
      intro hs
      obtain ⟨x, hx⟩ := hs a (List.mem_cons_self ..)
      obtain ⟨cl, hcl⟩ := ih fun b hb => hs b (List.mem_cons_of_mem _ hb)
      exact ⟨x :: cl, concs_cons.2 ⟨x, cl, rfl, hx, hcl⟩⟩
  obtain ⟨cl, hcl⟩ := hc
  have h0 := h M
  rw [hcl] at h0
  refine ⟨(concs_length h0).symm.trans (concs_length hcl), fun j a ha => ?_⟩
  obtain ⟨x, h1, h2⟩ := concs_get h0 ha
  refine ⟨x, h2, ?_⟩
  have hj : j < c.length := by
    have := (List.getElem?_eq_some_iff.1 h1).1
    rw [concs_length hcl] at this
    exact this
  obtain ⟨y, k1, k2⟩ := hf j c[j] (by simp [hj])
  obtain ⟨z, m1, m2⟩ := concs_get hcl (show c[j]? = some c[j] by simp [hj])
  rw [h1] at m1
  simp only [Option.some.injEq] at m1
  rw [k1] at m2
  simp only [Option.some.injEq] at m2
  rw [k2, m2, ← m1]
theorem concE_iff {M : Map} : ∀ {l : List (AV × AV)} {es : List MapEntry}, concE M l es ↔ (concs M (l.map Prod.fst) = some (es.map (·.key)) ∧ concs M (l.map Prod.snd) = some (es.map (·.val)))
  | [], es => by
    simp only [concE, List.map_nil, concs, Option.some.injEq]
    constructor
    · rintro rfl; exact ⟨rfl, rfl⟩
    · rintro ⟨h, _⟩
      exact List.map_eq_nil_iff.1 h.symm
  | (k, v) :: l, es => by
    constructor
    · rintro ⟨e, rest, rfl, h1, h2, h3⟩
      obtain ⟨k1, k2⟩ := concE_iff.1 h3
      exact ⟨concs_cons.2 ⟨_, _, rfl, h1, k1⟩, concs_cons.2 ⟨_, _, rfl, h2, k2⟩⟩
    · rintro ⟨h1, h2⟩
      obtain ⟨x, xs, e1, h3, h4⟩ := concs_cons.1 h1
      obtain ⟨y, ys, e2, h5, h6⟩ := concs_cons.1 h2
      cases es with
      | nil => simp at e1
      | cons e rest =>
        simp only [List.map_cons, List.cons.injEq] at e1 e2
        exact ⟨e, rest, rfl, e1.1 ▸ h3, e2.1 ▸ h5, concE_iff.2 ⟨e1.2 ▸ h4, e2.2 ▸ h6⟩⟩
theorem RenO.rel {P : Program} {s : List Nat} {o o0 : Option AObj} (h : RenO s o o0) {M : Map} {p : Loc} {co : Option Obj} (r : ORel P M p o co) : ORel P (M.via s) p o0 co := by
  cases h with
  | none => exact True.intro
  | cells h =>
    obtain ⟨h0, h1, h2, h3, h4, arr, h5, h6, h7, h8, h9⟩ := r
    obtain ⟨k1, k2⟩ := h.get h9
    exact ⟨h0, h1, h2, h3, h4, arr, h5, h6, by omega, fun e => by rw [k1]; exact h8 e, k2⟩
  | less h =>
    obtain ⟨h0, h1, h2, h3, h4, arr, h5, h6, h7, h8, h9⟩ := r
    obtain ⟨k1, k2⟩ := h.get h9
    simp only [List.length_append] at k1
    refine ⟨h0, h1, h2, h3, h4, arr, h5, h6, by omega, nofun, fun j a ha => k2 j a ?_⟩
    rw [List.getElem?_append_left (List.getElem?_eq_some_iff.1 ha).1]
    exact ha
  | ro h => exact (h.get r).2
  | iter => exact r
  | map h1 h2 =>
    obtain ⟨ents, clock, k1, k2, k3⟩ := r
    refine ⟨ents, clock, k1, ?_, k3⟩
    rw [concE_iff] at k2 ⊢
    rw [h1 M, h2 M]
    exact k2
theorem RenO.src {s : List Nat} {o : Option AObj} {o0 : AObj} (h : RenO s o (some o0)) : ∃ o1, o = some o1 ∧ o1.isRo = o0.isRo := by cases h <;> exact ⟨_, rfl, rfl⟩
def LayL (h h0 : Heap) (s : List Nat) : List Nat → Nat → Prop
  | [], _ => True
  | i :: l, j => RenO s (h.objs.get i) (h0.objs.get j) ∧ LayL h h0 s l (j + 1)
theorem LayL.get {h h0 : Heap} {s : List Nat} : ∀ {l : List Nat} {k : Nat}, LayL h h0 s l k → ∀ (j i : Nat), l[j]? = some i → RenO s (h.objs.get i) (h0.objs.get (k + j))
  | [], _, _, j, i, hj => by simp at hj
  | x :: l, k, hl, j, i, hj => by
    cases j with
    | zero => simp only [List.getElem?_cons_zero, Option.some.injEq] at hj; subst hj; exact hl.1
    | succ j =>
      simp only [List.getElem?_cons_succ] at hj
      rw [show k + (j + 1) = k + 1 + j by omega]
      exact LayL.get hl.2 j i hj
def upto? : Nat → List Nat → Nat → Bool
  | 0, _, _ => true
  | n + 1, i :: l, k => Nat.beq i k && upto? n l (k + 1)
  | _ + 1, [], _ => false
theorem upto?_get : ∀ {n : Nat} {l : List Nat} {k : Nat}, upto? n l k = true → ∀ j, j < n → l[j]? = some (k + j)
  | 0, _, _, _, j, hj => by omega
  | n + 1, [], k, h, j, hj => by simp [upto?] at h
  | n + 1, i :: l, k, h, j, hj => by
    simp only [upto?, Bool.and_eq_true] at h
    cases j with
    | zero => have := Nat.eq_of_beq_eq_true h.1; subst this; simp
    | succ j =>
      simp only [List.getElem?_cons_succ]
      rw [upto?_get h.2 j (by omega), show k + 1 + j = k + (j + 1) by omega]
def once (h0 : Heap) : List Nat → Nat → List Nat → Bool
  | [], _, _ => true
  | i :: l, j, seen => match h0.objs.get j with
    | some _ => !seen.any (Nat.beq i) && once h0 l (j + 1) (i :: seen)
    | none => once h0 l (j + 1) seen
theorem once_spec {h0 : Heap} : ∀ {l : List Nat} {k : Nat} {seen : List Nat}, once h0 l k seen = true →
    (∀ j i, l[j]? = some i → (h0.objs.get (k + j)).isSome = true → i ∉ seen) ∧ ∀ j j' i, l[j]? = some i → l[j']? = some i → (h0.objs.get (k + j)).isSome = true → (h0.objs.get (k + j')).isSome = true → j = j'
  | [], _, _, _ => ⟨by simp, by simp⟩
  | x :: l, k, seen, h => by
    simp only [once] at h
    split at h
    · rename_i o ho
      simp only [Bool.and_eq_true, Bool.not_eq_true', List.any_eq_false] at h
      obtain ⟨h1, h2⟩ := h
      obtain ⟨k1, k2⟩ := once_spec h2
      have hx : x ∉ seen := fun hx => h1 x hx (by simp)
      refine ⟨fun j i hj hs => ?_, fun j j' i hj hj' hs hs' => ?_⟩
      · cases j with
        | zero => simp only [List.getElem?_cons_zero, Option.some.injEq] at hj; subst hj; exact hx
        | succ j =>
          simp only [List.getElem?_cons_succ] at hj
          rw [show k + (j + 1) = k + 1 + j by omega] at hs
          exact fun hm => k1 j i hj hs (List.mem_cons_of_mem _ hm)
      · cases j with
        | zero =>
          cases j' with
          | zero => rfl
          | succ j' =>
            simp only [List.getElem?_cons_zero, Option.some.injEq, List.getElem?_cons_succ] at hj hj'
            subst hj
            rw [show k + (j' + 1) = k + 1 + j' by omega] at hs'
            exact (k1 j' _ hj' hs' (List.mem_cons_self ..)).elim
        | succ j =>
          cases j' with
          | zero =>
            simp only [List.getElem?_cons_zero, Option.some.injEq, List.getElem?_cons_succ] at hj hj'
            subst hj'
            rw [show k + (j + 1) = k + 1 + j by omega] at hs
            exact (k1 j _ hj hs (List.mem_cons_self ..)).elim
          | succ j' =>
            simp only [List.getElem?_cons_succ] at hj hj'
            rw [show k + (j + 1) = k + 1 + j by omega] at hs
            rw [show k + (j' + 1) = k + 1 + j' by omega] at hs'
            rw [k2 j j' i hj hj' hs hs']
    · rename_i ho
      obtain ⟨k1, k2⟩ := once_spec h
      refine ⟨fun j i hj hs => ?_, fun j j' i hj hj' hs hs' => ?_⟩
      · cases j with
        | zero => rw [Nat.add_zero, ho] at hs; cases hs
        | succ j =>
          simp only [List.getElem?_cons_succ] at hj
          rw [show k + (j + 1) = k + 1 + j by omega] at hs
          exact k1 j i hj hs
      · cases j with
        | zero => rw [Nat.add_zero, ho] at hs; cases hs
        | succ j =>
          cases j' with
          | zero => rw [Nat.add_zero, ho] at hs'; cases hs'
          | succ j' =>
            simp only [List.getElem?_cons_succ] at hj hj'
            rw [show k + (j + 1) = k + 1 + j by omega] at hs
            rw [show k + (j' + 1) = k + 1 + j' by omega] at hs'
            rw [k2 j j' i hj hj' hs hs']
structure Lay (N : Nat) (s : List Nat) (h h0 : Heap) : Prop where
  len : Nat.beq s.length h0.next = true
  low : upto? N s 0 = true
  inj : once h0 s 0 [] = true
  obj : LayL h h0 s s 0
theorem Lay.keep {N : Nat} {s : List Nat} {h h0 : Heap} (l : Lay N s h h0) (M : Map) : Keep N M (M.via s) := fun i hi => by
  have := upto?_get l.low i hi
  rw [Nat.zero_add] at this
  exact via_get this M
theorem Lay.next {N : Nat} {s : List Nat} {h h0 : Heap} (l : Lay N s h h0) : N ≤ h0.next := by
  have h1 := Nat.eq_of_beq_eq_true l.len
  rw [← h1]
  by_cases h0' : N = 0
  · omega
  · have := upto?_get l.low (N - 1) (by omega)
    have := (List.getElem?_eq_some_iff.1 this).1
    omega
theorem HRel.lay {P : Program} {B : Nat} {w0 : World} {M : Map} {h h0 : Heap} {w : World} (r : HRel P B w0 M h w) {N : Nat} {s : List Nat} (l : Lay N s h h0) : HRel P B w0 (M.via s) h0 w := by
  have hlen := Nat.eq_of_beq_eq_true l.len
  refine ⟨r.belowM, r.base, fun i hi => ?_, fun j p hp => ?_, fun j k p q hp hq hpq lj lk => ?_⟩
  · simp only [Map.via]
    rw [List.getElem?_eq_none (by omega)]
    rfl
  · simp only [Map.via, Option.bind_eq_some_iff] at hp
    obtain ⟨i, hi, hp⟩ := hp
    have ho := l.obj.get j i hi
    rw [Nat.zero_add] at ho
    obtain ⟨k1, k2, k3⟩ := r.obj i p hp
    refine ⟨fun o hh hr => ?_, k2, ho.rel k3⟩
    rw [hh] at ho
    obtain ⟨o1, e1, e2⟩ := ho.src
    exact k1 o1 e1 (by rw [e2]; exact hr)
  · simp only [Map.via, Option.bind_eq_some_iff] at hp hq
    obtain ⟨i, hi, hp⟩ := hp
    obtain ⟨i', hi', hq⟩ := hq
    obtain ⟨o, ho, hr⟩ := lj
    have r1 := l.obj.get j i hi
    have r2 := l.obj.get k i' hi'
    rw [Nat.zero_add] at r1 r2
    rw [ho] at r1
    obtain ⟨o1, e1, e2⟩ := r1.src
    obtain ⟨o', ho'⟩ := Option.isSome_iff_exists.1 lk
    rw [ho'] at r2
    obtain ⟨o2, e3, e4⟩ := r2.src
    have hii := r.inj i i' p q hp hq hpq ⟨o1, e1, by rw [e2]; exact hr⟩ (by rw [e3]; rfl)
    subst hii
    exact (once_spec l.inj).2 j k i hi hi' (by rw [Nat.zero_add, ho]; rfl) (by rw [Nat.zero_add, ho']; rfl)
def envOf : List (Nat × AV) → Env → Option Env
  | [], e => some e
  | (t, v) :: l, e => match T.set (some v) 20 e t with
    | some e' => envOf l e'
    | none => none
theorem envOf_get : ∀ {l : List (Nat × AV)} {e e' : Env}, envOf l e = some e' → ∀ t v, e'.get t = some v → (t, v) ∈ l ∨ e.get t = some v
  | [], e, e', h, t, v, hv => by simp only [envOf, Option.some.injEq] at h; subst h; exact .inr hv
  | (x, y) :: l, e, e', h, t, v, hv => by
    simp only [envOf] at h
    split at h
    · rename_i e1 h1
      rcases envOf_get h t v hv with h2 | h2
      · exact .inl (List.mem_cons_of_mem _ h2)
      · rw [T.get_set h1] at h2
        split at h2
        · rename_i ht
          simp only [Option.some.injEq] at h2
          subst ht h2
          exact .inl (List.mem_cons_self ..)
        · exact .inr h2
    · cases h
def HasR (env : Env) (s : List Nat) : List (Nat × AV) → Prop
  | [] => True
  | (t, v0) :: l => (∃ v, env.get t = some v ∧ RenV s v v0) ∧ HasR env s l
theorem HasR.mem {env : Env} {s : List Nat} : ∀ {l : List (Nat × AV)}, HasR env s l → ∀ t v0, (t, v0) ∈ l → ∃ v, env.get t = some v ∧ RenV s v v0
  | [], _, _, _, h => by simp at h
  | (x, y) :: l, hr, t, v0, h => by
    rcases List.mem_cons.1 h with e | h
    · simp only [Prod.mk.injEq] at e
      obtain ⟨rfl, rfl⟩ := e
      exact hr.1
    · exact hr.2.mem t v0 h
theorem ERel.lay {M : Map} {n : Nat} {env env0 : Env} {a : Act} (re : ERel M n env a) {s : List Nat} {l : List (Nat × AV)} (hr : HasR env s l) (he : envOf l .leaf = some env0) : ERel (M.via s) n env0 a := by
  refine ⟨re.defers, re.size, fun t v hv => ?_⟩
  rcases envOf_get he t v hv with h1 | h1
  · obtain ⟨v1, h2, h3⟩ := hr.mem t v h1
    obtain ⟨c, h4, h5⟩ := re.get t v1 h2
    exact ⟨c, by rw [h3 M]; exact h4, h5⟩
  · simp [T.get] at h1
theorem RS.lay {P : Program} {N n : Nat} {c : Code} {env : Env} {h : Heap} {Post : APost} (s : List Nat) (l : List (Nat × AV)) (h0 : Heap) {env0 : Env} (hl : Lay N s h h0) (hr : HasR env s l) (he : envOf l .leaf = some env0) (r : RS P N n c env0 h0 Post) : RS P N n c env h Post :=
  fun B w0 M a w k1 _ k2 Q hq => r B w0 (M.via s) a w (k1.lay hl) hl.next (k2.lay hr he) Q fun e env' h' M' a' w' p g n' r' re' => hq e env' h' M' a' w' p ((hl.keep M).trans g) n' r' re'
def Rnd {σ : Type} (N : Nat) (inv : σ → Prop) (st : σ → List (Nat × AV)) (hp : σ → Heap) (mu : σ → Nat) (s : σ) (Post : APost) : APost
  | .normal, env', h' => ∃ s', inv s' ∧ mu s' < mu s ∧ ∃ ids, Lay N ids h' (hp s') ∧ HasR env' ids (st s')
  | .exit i, env', h' => Post (.exit i) env' h'
  | .ret, env', h' => Post .ret env' h'
theorem RS.loop {P : Program} {N n : Nat} {b : Code} {env : Env} {h : Heap} {Post : APost} {σ : Type} (inv : σ → Prop) (st : σ → List (Nat × AV)) (hp : σ → Heap) (mu : σ → Nat) (s : σ) (hi : inv s)
    (hin : ∃ ids, Lay N ids h (hp s) ∧ HasR env ids (st s)) (round : ∀ s, inv s → ∃ env0, envOf (st s) .leaf = some env0 ∧ RS P N n b env0 (hp s) (Rnd N inv st hp mu s Post)) : RS P N n (.loop b) env h Post := by
  intro B w0 M a w k1 kN k2 Q hq
  obtain ⟨ids, hl, hr⟩ := hin
  obtain ⟨e0, he0, _⟩ := round s hi
  refine wp_loop_ghost (fun k a w => ∃ s M1 env1, inv s ∧ mu s = k ∧ envOf (st s) .leaf = some env1 ∧ HRel P B w0 M1 (hp s) w ∧ N ≤ (hp s).next ∧ ERel M1 n env1 a ∧ Keep N M M1) (mu s) ⟨s, M.via ids, e0, hi, rfl, he0, k1.lay hl, hl.next, k2.lay hr he0, hl.keep M⟩ ?_
  rintro k a1 w1 ⟨s, M1, env1, i1, rfl, he1, r1, n1, re1, g1⟩
  obtain ⟨e1, he1', hr1⟩ := round s i1
  rw [he1] at he1'
  simp only [Option.some.injEq] at he1'
  subst he1'
  refine hr1 B w0 M1 a1 w1 r1 n1 re1 _ ?_
  intro e env2 h2 M2 a2 w2 hp2 g2 n2 r2 re2
  cases e with
  | normal =>
    obtain ⟨s', i', hm, ids', hl', hh'⟩ := hp2
    obtain ⟨e3, he3, _⟩ := round s' i'
    exact ⟨mu s', hm, s', M2.via ids', e3, i', rfl, he3, r2.lay hl', hl'.next, re2.lay hh' he3, (g1.trans g2).trans (hl'.keep M2)⟩
  | exit i => exact hq (.exit i) env2 h2 M2 a2 w2 hp2 (g1.trans g2) n2 r2 re2
  | ret => exact hq .ret env2 h2 M2 a2 w2 hp2 (g1.trans g2) n2 r2 re2
def Fin (P : Program) (N : Nat) (rs : List ResultVar) (v : AV) (hf : Heap) : APost := fun e env' h' =>
  e.ends = true ∧ ∃ vs, aresults P env' h' rs = some vs ∧ ∃ ids, Lay N ids h' hf ∧ RenV ids (afinish vs) v
theorem CSem.into {P : Program} {f : FuncId} {fn : Func} {c : Code} {nt : Nat} {rs : List ResultVar} {args : List AV} {env : Env} {h hf : Heap} {v : AV} (hfn : P.funcs[f]? = some fn) (hb : fn.body = some c) (hn : (fn.name == "runtime.NumGoroutine") = false) (hnt : fn.ntmps = nt) (hrs : fn.results.toList = rs)
    (hle : Nat.ble args.length nt = true) (henter : aenter args 0 .leaf = some env) (r : RS P h.next nt c env h (Fin P h.next rs v hf)) : CSem P f args h v hf := by
  subst hnt hrs
  intro B w0 M w hr cargs hc
  have hlen := concs_length hc
  refine calls_of_wp hfn hb ?_
  have hle' : args.length ≤ fn.ntmps := by simpa using hle
  have re : ERel M fn.ntmps env { tmps := cargs.toArray ++ Array.replicate (fn.ntmps - cargs.toArray.size) undef, defers := [] } := by
    refine ⟨rfl, by simp; omega, fun t v hv => ?_⟩
    rw [aenter_get henter] at hv
    split at hv
    · rename_i ht
      obtain ⟨x, k1, k2⟩ := concs_get hc hv
      refine ⟨x, k2, ?_⟩
      simp only [Nat.sub_zero] at k1
      have hlt : t < cargs.length := (List.getElem?_eq_some_iff.1 k1).1
      rw [Array.getElem?_append_left (by simpa using hlt)]
      simpa using k1
    · simp [T.get] at hv
  refine r B w0 M _ w hr (Nat.le_refl _) re _ ?_
  intro e env' h' M' a' w' hp g n' r' re'
  obtain ⟨he, vs, hvs, ids, hl, hv⟩ := hp
  obtain ⟨u, k1, k2⟩ := afinish_sound r' re' hvs
  have gg : Grow h hf M (M'.via ids) := by
    have hk : Keep h.next M (M'.via ids) := g.trans (hl.keep M')
    refine ⟨fun i p hi => ?_, hk, hl.next⟩
    have : i < h.next := by
      rcases Nat.lt_or_ge i h.next with h1 | h1
      · exact h1
      · rw [hr.fresh i h1] at hi; cases hi
    rw [hk i this]
    exact hi
  have fin : a'.defers = [] ∧ ∃ u, (results fn a'.tmps).run P w' = .ok u w' ∧ (∃ M' c, Grow h hf M M' ∧ Ending.returned u = .returned c ∧ conc M' v = some c ∧ HRel P B w0 M' hf w') :=
    ⟨re'.defers, u, k2, M'.via ids, u, gg, rfl, by rw [hv M']; exact k1, r'.lay hl⟩
  cases e with
  | normal => exact fin
  | ret => exact fin
  | exit id => cases he
end Go.Am
namespace Go.Am
open Go Go.RowKit
def lieP (h : Heap) : List Nat → List SObj → Prop
  | [], [] => True
  | i :: ids, o :: os => (h.objs.get i = some (.cells o.elem o.es o.cells o.exact) ∧ plains o.cells = true) ∧ lieP h ids os
  | _, _ => False
theorem addAllP_sound {P : Program} {B : Nat} {w0 w : World} {B1 : Nat} {w1 : World} {M1 : Map} {h1 : Heap} (r1 : HRel P B1 w1 M1 h1 w) (hB1 : B ≤ B1) :
    ∀ {os : List SObj} {ids : List Nat} {M : Map} {h h' : Heap}, lieP h1 ids os → ids.Nodup → HRel P B w0 M h w →
      (∀ j q, M j = some q → q.b < B1 ∨ ∃ i p o, i ∉ ids ∧ M1 i = some p ∧ h1.objs.get i = some o ∧ o.isRo = false ∧ q.b = p.b) →
      addAll os h = some h' → ∃ M', Grow h h' M M' ∧ HRel P B w0 M' h' w ∧ h'.next = h.next + os.length ∧ ∀ (j i : Nat), ids[j]? = some i → M' (h.next + j) = M1 i
  | [], [], M, h, h', _, _, r, _, ha => by
    simp only [addAll, Option.some.injEq] at ha
    subst ha
    exact ⟨M, Grow.refl _ M, r, by simp, by simp⟩
  | [], _ :: _, _, _, _, hl, _, _, _, _ => by simp [lieP] at hl
  | _ :: _, [], _, _, _, hl, _, _, _, _ => by simp [lieP] at hl
  | o :: os, i :: ids, M, h, h', hl, hn, r, hM, ha => by
    obtain ⟨⟨hg, e4⟩, hl'⟩ := hl
    obtain ⟨hni, hn'⟩ := List.nodup_cons.1 hn
    simp only [addAll] at ha
    split at ha
    · rename_i k h2 hadd
      have hk : k = h.next ∧ h2.next = h.next + 1 := by
        rw [Heap.add_eq] at hadd
        split at hadd
        · simp only [Option.some.injEq, Prod.mk.injEq] at hadd
          obtain ⟨rfl, rfl⟩ := hadd
          exact ⟨rfl, rfl⟩
        · cases hadd
      have step : ∃ M2, Grow h h2 M M2 ∧ HRel P B w0 M2 h2 w ∧ M2 h.next = M1 i ∧ ∀ j q, M2 j = some q → M j = some q ∨ M1 i = some q := by
        cases hi : M1 i with
        | none =>
          obtain ⟨q1, q2⟩ := r.promise hadd
          refine ⟨M, ⟨Map.le.refl M, fun _ _ => rfl, by omega⟩, q1, ?_, fun j q h => .inl h⟩
          rw [← hk.1]; exact q2
        | some p =>
          obtain ⟨a1, a2, a3⟩ := r1.obj i p hi
          rw [hg] at a3
          obtain ⟨b1, b2, b3, b4, b5, arr, b6, b7, b8, b9, b10⟩ := a3
          have hb := a1 _ hg rfl
          have hp : p = ⟨p.b, 0, p.cap⟩ := by cases p; simp only at b1; rw [b1]
          obtain ⟨q1, q2⟩ := r.adopt hadd (b := p.b) (cap := p.cap) (by omega) a2 (fun j q hj hqb => by
            rcases hM j q hj with h | ⟨i', p', o', c1, c2, c3, c4, c5⟩
            · omega
            · have := r1.inj i' i p' p c2 hi (by omega) ⟨o', c3, c4⟩ (by rw [hg]; rfl)
              exact c1 (by rw [this]; exact List.mem_cons_self ..)) ⟨rfl, b2, b3, b4, b5, arr, b6, b7, b8, b9, fun j a hj => by
              obtain ⟨x, y1, y2⟩ := b10 j a hj
              exact ⟨x, by rw [plains_conc e4 j a hj (M' := M1)]; exact y1, y2⟩⟩
          refine ⟨_, q1, q2, ?_, fun j q h => ?_⟩
          · rw [← hk.1, Map.put_self, ← hp]
          · unfold Map.put at h
            split at h
            · simp only [Option.some.injEq] at h
              subst h
              rw [← hp]
              exact .inr rfl
            · exact .inl h
      obtain ⟨M2, g2, r2, m2, back⟩ := step
      obtain ⟨M3, g3, r3, n3, m3⟩ := addAllP_sound r1 hB1 hl' hn' r2 (fun j q hj => by
        rcases back j q hj with h | h
        · rcases hM j q h with h | ⟨i', p', o', c1, c2⟩
          · exact .inl h
          · exact .inr ⟨i', p', o', fun hin => c1 (List.mem_cons_of_mem _ hin), c2⟩
        · exact .inr ⟨i, q, _, hni, h, hg, rfl, rfl⟩) ha
      refine ⟨M3, g2.trans g3, r3, by rw [n3, hk.2, List.length_cons]; omega, fun j i' hj => ?_⟩
      cases j with
      | zero =>
        simp only [List.getElem?_cons_zero, Option.some.injEq] at hj
        subst hj
        rw [Nat.add_zero, g3.keep _ (by omega), m2]
      | succ j =>
        simp only [List.getElem?_cons_succ] at hj
        rw [show h.next + (j + 1) = h2.next + j by omega]
        exact m3 j i' hj
    · cases ha
def Ins (o o0 : Option AObj) : Prop :=
  match o0 with
  | some (.ro _ _ c) => plains c = true ∧ tells o c
  | none => True
  | _ => False
def InsL (h h0 : Heap) : List Nat → Nat → Prop
  | [], _ => True
  | i :: l, j => Ins (h.objs.get i) (h0.objs.get j) ∧ InsL h h0 l (j + 1)
theorem InsL.get {h h0 : Heap} : ∀ {l : List Nat} {k : Nat}, InsL h h0 l k → ∀ (j i : Nat), l[j]? = some i → Ins (h.objs.get i) (h0.objs.get (k + j))
  | [], _, _, j, i, hj => by simp at hj
  | x :: l, k, hl, j, i, hj => by
    cases j with
    | zero => simp only [List.getElem?_cons_zero, Option.some.injEq] at hj; subst hj; exact hl.1
    | succ j =>
      simp only [List.getElem?_cons_succ] at hj
      rw [show k + (j + 1) = k + 1 + j by omega]
      exact InsL.get hl.2 j i hj
theorem via_in {P : Program} {B : Nat} {w0 w : World} {M : Map} {h h0 : Heap} (r : HRel P B w0 M h w) {s : List Nat} (hn : h0.next = s.length) (ho : InsL h h0 s 0) : HRel P w.heap.size w (M.via s) h0 w := by
  refine ⟨BelowM.refl _ _, ⟨Nat.le_refl _, r.known⟩, fun i hi => ?_, fun j p hp => ?_, fun j k p q hp hq hpq lj lk => ?_⟩
  · simp only [Map.via]
    rw [List.getElem?_eq_none (by omega)]
    rfl
  · simp only [Map.via, Option.bind_eq_some_iff] at hp
    obtain ⟨i, hi, hp⟩ := hp
    have h1 := ho.get j i hi
    rw [Nat.zero_add] at h1
    obtain ⟨k1, k2, k3⟩ := r.obj i p hp
    unfold Ins at h1
    split at h1
    · rename_i e es c hg
      rw [hg]
      obtain ⟨h2, h3⟩ := h1
      refine ⟨fun o hh hr => ?_, k2, ?_⟩
      · simp only [Option.some.injEq] at hh
        subst hh
        cases hr
      · unfold tells at h3
        split at h3
        · rename_i e' es' c' ex hg2
          subst h3
          rw [hg2] at k3
          obtain ⟨p0, p1, p2, p3, p4, arr, p5, p6, p7, p8, p9⟩ := k3
          intro x a ha
          obtain ⟨y, y1, y2⟩ := p9 x a ha
          exact ⟨y, by rw [plains_conc h2 x a ha (M' := M)]; exact y1, by rw [p5, p0, Nat.zero_add]; exact y2⟩
        · rename_i e' es' c' hg2
          subst h3
          rw [hg2] at k3
          intro x a ha
          obtain ⟨y, y1, y2⟩ := k3 x a ha
          exact ⟨y, by rw [plains_conc h2 x a ha (M' := M)]; exact y1, y2⟩
        · cases h3
    · rename_i hg
      rw [hg]
      exact ⟨nofun, k2, True.intro⟩
    · cases h1
  · simp only [Map.via, Option.bind_eq_some_iff] at hp
    obtain ⟨i, hi, hp⟩ := hp
    have h1 := ho.get j i hi
    rw [Nat.zero_add] at h1
    obtain ⟨o, ho', hr⟩ := lj
    rw [ho'] at h1
    cases o <;> first | (cases hr; done) | exact h1.elim
theorem CSem.up {P : Program} {f : FuncId} {args0 args : List AV} {h0 h1 h h' : Heap} {v0 v : AV} (c : CSem P f args0 h0 v0 h1) (s : List Nat) (os : List SObj) (hn : h0.next = s.length) (hs : s.all (fun i => Nat.blt i h.next) = true) (hi : InsL h h0 s 0) (ha : RenVs s args args0)
    (hl : lieP h1 (List.range' s.length os.length) os) (hn1 : h1.next = s.length + os.length) (hadd : addAll os h = some h') (hv : RenV (s ++ List.range' h.next os.length) v v0) : CSem P f args h v h' := by
  intro B w0 M w r cargs hc
  have r0 := via_in r hn hi
  refine (c w.heap.size w (M.via s) w r0 cargs (by rw [ha]; exact hc)).mono ?_
  rintro e w' ⟨M1, c, g1, rfl, hcv, r1⟩
  have ra := r.after r1.below
  have hB : B ≤ w.heap.size := Nat.le_trans r.base.1 r.below.size
  obtain ⟨M', g', r', n', m'⟩ := addAllP_sound r1 hB hl List.nodup_range' ra (fun j q hj => .inl (r.obj j q hj).2.1) hadd
  refine ⟨M', c, g', rfl, ?_, r'⟩
  rw [← hv M']
  have : M'.via (s ++ List.range' h.next os.length) = M1 := by
    funext j
    by_cases h1' : j < s.length
    · simp only [Map.via, List.getElem?_append_left h1']
      rw [g1.keep j (by omega)]
      obtain ⟨i, hi'⟩ : ∃ i, s[j]? = some i := ⟨s[j], by simp [h1']⟩
      rw [via_get hi', hi']
      simp only [Option.bind_some]
      cases hM : M i with
      | none =>
        have hlt := List.all_eq_true.1 hs i (List.mem_of_getElem? hi')
        rw [g'.keep i (by simpa [blt_iff] using hlt), hM]
      | some p => exact g'.le i p hM
    · by_cases h2' : j < s.length + os.length
      · simp only [Map.via]
        rw [List.getElem?_append_right (by omega)]
        rw [List.getElem?_range' (by omega)]
        simp only [Option.bind_some, Nat.one_mul]
        exact m' (j - s.length) j (by rw [List.getElem?_range' (by omega)]; simp; omega)
      · rw [r1.fresh j (by omega)]
        simp only [Map.via]
        rw [List.getElem?_eq_none (by simp; omega)]
        rfl
  rw [this]
  exact hcv
end Go.Am
namespace Go.Am
open Go Go.RowKit
def FactS (P : Program) (ops : Array Oper) (hs : List Heap) (h0? : Option (Nat × TypeId × List AV)) (r : Rec) (j : Nat) : Prop :=
  match r.kind with
  | .skip => awanted ops (aeval r.env) r.o = some false ∧ r.v = .tuple []
  | .calm => awanted ops (aeval r.env) r.o = some true ∧ ∀ H, OSem P r.o (glim (r.o.looksAt ops) r.env) H r.v H
  | .read => awanted ops (aeval r.env) r.o = some true
  | .eff => awanted ops (aeval r.env) r.o = some true ∧ ∃ H H', hs[j]? = some H ∧ hs[j + 1]? = some H' ∧ OSem P r.o (glim (r.o.looksAt ops) r.env) H r.v H'
  | .mem i t z => awanted ops (aeval r.env) r.o = some true ∧ h0? = some (i, t, z) ∧ amake P r.o.op (aeval r.env) i = some (t, z, r.v)
structure TracedS (P : Program) (ops : Array Oper) (n : Nat) (l : List Oper) (rs : List (Option (Nat × TypeId × List AV))) (env : Env) (h : Heap) (recs : List Rec) (env' : Env) (hs : List Heap) : Prop where
  head : hs.head? = some h
  len : recs.length = l.length
  rlen : rs.length = l.length
  hlen : hs.length = ecount recs + 1
  start : envAt recs env' 0 = env
  opr : ∀ (i : Nat) (r : Rec), recs[i]? = some r → l[i]? = some r.o
  put : ∀ (i : Nat) (r : Rec), recs[i]? = some r → aput r.env n r.o.dst r.v = some (envAt recs env' (i + 1))
  fact : ∀ (i : Nat) (r : Rec), recs[i]? = some r → FactS P ops hs (rs[i]?).join r (ecount (recs.take i))
theorem TracedS.cons {P : Program} {ops : Array Oper} {n : Nat} {l : List Oper} {rs : List (Option (Nat × TypeId × List AV))} {env1 : Env} {h1 : Heap} {recs : List Rec} {env' : Env} {hs : List Heap}
    (t : TracedS P ops n l rs env1 h1 recs env' hs) {r : Rec} {r0 : Option (Nat × TypeId × List AV)} {h : Heap} {hs' : List Heap} (hput : aput r.env n r.o.dst r.v = some env1)
    (hcase : (r.isEff = false ∧ hs' = hs ∧ h = h1) ∨ (r.isEff = true ∧ hs' = h :: hs)) (hfact : FactS P ops hs' r0 r 0) :
    TracedS P ops n (r.o :: l) (r0 :: rs) r.env h (r :: recs) env' hs' := by
  have hec := ecount_cons r
  refine ⟨?_, by simp [t.len], by simp [t.rlen], ?_, rfl, ?_, ?_, ?_⟩
  · rcases hcase with ⟨_, rfl, rfl⟩ | ⟨_, rfl⟩
    · exact t.head
    · rfl
  · rw [hec]
    rcases hcase with ⟨h1, rfl, rfl⟩ | ⟨h1, rfl⟩
    · simp [h1, t.hlen]
    · simp [h1, t.hlen]
  · intro i r' hi
    cases i with
    | zero => simp only [List.getElem?_cons_zero, Option.some.injEq] at hi ⊢; rw [hi]
    | succ i => simp only [List.getElem?_cons_succ] at hi ⊢; exact t.opr i r' hi
  · intro i r' hi
    cases i with
    | zero =>
      simp only [List.getElem?_cons_zero, Option.some.injEq] at hi
      subst hi
      rw [hput]
      have : envAt (r :: recs) env' (0 + 1) = envAt recs env' 0 := by simp [envAt]
      rw [this, t.start]
    | succ i =>
      simp only [List.getElem?_cons_succ] at hi
      have : envAt (r :: recs) env' (i + 1 + 1) = envAt recs env' (i + 1) := by simp [envAt]
      rw [this]
      exact t.put i r' hi
  · intro i r' hi
    cases i with
    | zero =>
      simp only [List.getElem?_cons_zero, Option.some.injEq] at hi
      subst hi
      simpa [ecount] using hfact
    | succ i =>
      simp only [List.getElem?_cons_succ] at hi
      have hf := t.fact i r' hi
      have e1 : (((r0 :: rs)[i + 1]?).join) = (rs[i]?).join := by simp
      rw [e1, List.take_succ_cons, hec]
      rcases hcase with ⟨h1, rfl, rfl⟩ | ⟨h1, rfl⟩
      · simpa [h1] using hf
      · rw [if_pos h1]
        unfold FactS at hf ⊢
        cases hk : r'.kind <;> simp only [hk] at hf ⊢
        case eff =>
          obtain ⟨a1, H, H', a2, a3, a4⟩ := hf
          exact ⟨a1, H, H', by simpa using a2, by simpa using a3, a4⟩
        all_goals exact hf
theorem TracedS.get {P : Program} {ops : Array Oper} {n : Nat} {l : List Oper} {rs : List (Option (Nat × TypeId × List AV))} {env : Env} {h : Heap} {recs : List Rec} {env' : Env} {hs : List Heap}
    (t : TracedS P ops n l rs env h recs env' hs) (x : Tmp) : ∀ i, i ≤ recs.length →
    ((∀ (j : Nat) (r : Rec), j < i → recs[j]? = some r → r.o.dst ≠ some x) ∧ (envAt recs env' i).get x = env.get x) ∨
    (∃ (j : Nat) (r : Rec), j < i ∧ recs[j]? = some r ∧ r.o.dst = some x ∧ (∀ (k : Nat) (r' : Rec), j < k → k < i → recs[k]? = some r' → r'.o.dst ≠ some x) ∧ (envAt recs env' i).get x = some r.v)
  | 0, _ => .inl ⟨fun j r hj => by omega, by rw [t.start]⟩
  | i + 1, hi => by
    obtain ⟨r, hr⟩ : ∃ r, recs[i]? = some r := ⟨recs[i], by simp⟩
    have hp := aput_get (t.put i r hr) x
    have he : envAt recs env' i = r.env := by simp [envAt, hr]
    by_cases hd : r.o.dst = some x
    · refine .inr ⟨i, r, by omega, hr, hd, fun k r' h1 h2 => by omega, ?_⟩
      rw [hp, if_pos hd]
    · rw [if_neg hd, ← he] at hp
      rcases t.get x i (by omega) with ⟨h1, h2⟩ | ⟨j, r', h1, h2, h3, h4, h5⟩
      · refine .inl ⟨fun j r' hj hr' => ?_, by rw [hp, h2]⟩
        by_cases e : j = i
        · subst e; rw [hr] at hr'; simp only [Option.some.injEq] at hr'; subst hr'; exact hd
        · exact h1 j r' (by omega) hr'
      · refine .inr ⟨j, r', by omega, h2, h3, fun k r'' k1 k2 k3 => ?_, by rw [hp, h5]⟩
        by_cases e : k = i
        · subst e; rw [hr] at k3; simp only [Option.some.injEq] at k3; subst k3; exact hd
        · exact h4 k r'' k1 (by omega) k3
def winS (p : Heap → Prop) (lo hi : Nat) : List Heap → Nat → Prop
  | [], _ => True
  | h :: hs, k => (bif Nat.ble lo k && Nat.ble k hi then p h else True) ∧ winS p lo hi hs (k + 1)
theorem winS_spec {p : Heap → Prop} {lo hi : Nat} : ∀ {hs : List Heap} {k : Nat}, winS p lo hi hs k → ∀ (j : Nat) (h : Heap), hs[j]? = some h → lo ≤ k + j → k + j ≤ hi → p h
  | [], k, _, j, h, hj, _, _ => by simp at hj
  | h0 :: hs, k, e, j, h, hj, h1, h2 => by
    obtain ⟨e1, e2⟩ := e
    cases j with
    | zero =>
      simp only [List.getElem?_cons_zero, Option.some.injEq] at hj
      subst hj
      have : (Nat.ble lo k && Nat.ble k hi) = true := by simp; omega
      rw [this] at e1
      exact e1
    | succ j =>
      simp only [List.getElem?_cons_succ] at hj
      exact winS_spec e2 j h hj (by omega) (by omega)
def recOkS (P : Program) (ops : Array Oper) (hs : List Heap) (es : List Nat) (ms : List Nat) (i : Nat) (m : Nat) (r : Rec) : Prop :=
  match r.kind with
  | .skip | .calm => True
  | .eff => (Nat.beq (cnt (fun e => m.testBit e) es) (cnt (hiP ms i) es) && Nat.beq (cnt (fun e => m.testBit e) es) (cnt (fun e => Nat.blt e i) es)) = true
  | .read => winS (fun h => OSem P r.o (glim (r.o.looksAt ops) r.env) h r.v h) (cnt (fun e => m.testBit e) es) (cnt (hiP ms i) es) hs 0
  | .mem j t z => winS (fun h => h.objs.get j = some (.cells t (P.cellsOf t) z true)) (cnt (fun e => m.testBit e) es) (cnt (hiP ms i) es) hs 0
def okS (P : Program) (ops : Array Oper) (hs : List Heap) (es : List Nat) (ms : List Nat) : List Nat → List Rec → Nat → Prop
  | _, [], _ => True
  | m :: l, r :: rs, i => recOkS P ops hs es ms i m r ∧ okS P ops hs es ms l rs (i + 1)
  | [], _ :: _, _ => False
theorem okS_spec {P : Program} {ops : Array Oper} {hs : List Heap} {es ms : List Nat} : ∀ {l : List Nat} {recs : List Rec} {i : Nat}, okS P ops hs es ms l recs i →
    ∀ (j : Nat) (r : Rec), recs[j]? = some r → ∃ m, l[j]? = some m ∧ recOkS P ops hs es ms (i + j) m r
  | _, [], i, _, j, r, hj => by simp at hj
  | [], _ :: _, i, h, j, r, hj => h.elim
  | m :: l, r0 :: recs, i, h, j, r, hj => by
    obtain ⟨h1, h2⟩ := h
    cases j with
    | zero => simp only [List.getElem?_cons_zero, Option.some.injEq] at hj; subst hj; exact ⟨m, rfl, h1⟩
    | succ j =>
      simp only [List.getElem?_cons_succ] at hj ⊢
      obtain ⟨m', h3, h4⟩ := okS_spec h2 j r hj
      exact ⟨m', h3, by rwa [show i + 1 + j = i + (j + 1) by omega] at h4⟩
section
variable {P : Program} {ops : Array Oper} {n : Nat} {rs : List (Option (Nat × TypeId × List AV))} {env : Env} {h h0 : Heap} {recs : List Rec} {env' : Env} {hs : List Heap} {gs : List Guess}
theorem DInv.stepS (hord : ordered ops ops.toList (masks ops.toList []) [] = true) (hh : ahoist P gs h = some (rs, h0)) (t : TracedS P ops n ops.toList rs env h0 recs env' hs)
    (hok : okS P ops hs (effs recs 0) (masks ops.toList []) (masks ops.toList []) recs 0) {B : Nat} {w0 : World} {M0 : Map} {Q : Exit → Act → World → Prop} {listed : Array Bool} {a : Act} {w : World} (inv : DInv P B w0 M0 h ops n env recs hs h0.next listed a w)
    {i : Nat} (hi : i ∈ Region.ready .any ops listed) {Kc : Act → World → Prop} (hk : ∀ a' w', DInv P B w0 M0 h ops n env recs hs h0.next (listed.setIfInBounds i true) a' w' → Kc a' w') : wpOp P ops Q i Kc a w := by
  obtain ⟨hun, o, ho, hafter⟩ := mem_ready.1 hi
  obtain ⟨M, H, eH, eM0, eK, eN, eR, eW, eE, eF⟩ := inv.ex
  have hilt : i < ops.size := (Array.getElem?_eq_some_iff.1 ho).1
  have hilt' : i < listed.size := by rw [inv.size]; exact hilt
  have hSi : listed.getD i false = false := by
    simp only [Array.getD_eq_getD_getElem?, Array.getElem?_eq_getElem hilt'] at hun ⊢
    simpa using hun
  have hanc := ready_anc inv.down ho hafter
  have hlen : recs.length = ops.size := by rw [t.len]; simp
  obtain ⟨r, hr⟩ : ∃ r, recs[i]? = some r := ⟨recs[i], by simp⟩
  have hro : r.o = o := by
    have := t.opr i r hr
    rw [Array.getElem?_toList, ho] at this
    simpa using this.symm
  have opOf : ∀ (j : Nat) (r' : Rec), recs[j]? = some r' → ops[j]? = some r'.o := fun j r' hj => by
    have := t.opr j r' hj
    rwa [Array.getElem?_toList] at this
  have nolater : ∀ (k : Nat) (r' : Rec) (x : Tmp), i < k → recs[k]? = some r' → listed.getD k false = true → r'.o.dst = some x → x ∈ onames ops o → False := by
    intro k r' x hik hk' hSk hd hx
    have := conflict hord hik ho (opOf k r' hk') (t := x) (.inr ⟨hd, hx⟩)
    rw [inv.down k i hSk this] at hSi
    cases hSi
  have operand : ∀ x ∈ onames ops o, ∀ v, r.env.get x = some v → ∃ c, conc M v = some c ∧ a.tmps[x]? = some c := by
    intro x hx v hv
    have henv : envAt recs env' i = r.env := by simp [envAt, hr]
    rcases t.get x i (by omega) with ⟨g1, g2⟩ | ⟨j, r', g1, g2, g3, g4, g5⟩
    · rw [henv, hv] at g2
      refine eE x v (fun k r'' hk' hSk hd => ?_) g2.symm
      rcases Nat.lt_trichotomy k i with hlt | rfl | hgt
      · exact g1 k r'' hlt hk' hd
      · rw [hSi] at hSk; cases hSk
      · exact nolater k r'' x hgt hk' hSk hd hx
    · rw [henv, hv] at g5
      simp only [Option.some.injEq] at g5
      subst g5
      have hSj := hanc j (conflict hord g1 (opOf j r' g2) ho (t := x) (.inl ⟨g3, hx⟩))
      refine eW j r' x g2 hSj g3 fun k r'' hk' hSk hd => ?_
      rcases Nat.lt_trichotomy k i with hlt | rfl | hgt
      · refine Nat.le_of_not_lt fun hjk => g4 k r'' hjk hlt hk' hd
      · rw [hSi] at hSk; cases hSk
      · exact (nolater k r'' x hgt hk' hSk hd hx).elim
  have looks : ∀ x ∈ o.looksAt ops, x ∈ onames ops o := fun x hx => List.mem_append_right _ hx
  have hG : ∀ d v, glim (o.looksAt ops) r.env (.tmp d) = some v → ∃ c, conc M v = some c ∧ a.tmps[d]? = some c := by
    intro d v hv
    simp only [glim] at hv
    split at hv
    · rename_i hd; exact operand d (looks d hd) v hv
    · cases hv
  have hGR : GRel M (glim (o.looksAt ops) r.env) a := by
    intro x v hv
    cases x with
    | tmp d =>
      obtain ⟨c, h1, h2⟩ := hG d v hv
      simp [Act.eval, h1, h2]
    | const u => exact (ERel.ev (M := M) (n := 0) (env := .leaf) (a := ⟨#[], []⟩) ⟨rfl, rfl, fun t v e => by simp [T.get] at e⟩) (.const u) v hv
    | global g => simp [glim, aeval] at hv
    | func f => simp only [glim, aeval, Option.some.injEq] at hv; subst hv; simp [conc, concs, Act.eval]
  obtain ⟨m, hm, hrec⟩ := okS_spec hok i r hr
  simp only [Nat.zero_add] at hrec
  have hmanc : ∀ e, m.testBit e = true → Anc ops i e := fun e he => masks_anc (l := ops.toList) (acc := []) (by simp) (by simp) i m hm e he
  have hlo : cnt (fun e => m.testBit e) (effs recs 0) ≤ cnt (fun x => listed.getD x false) (effs recs 0) := cnt_mono fun x _ hx => hanc x (hmanc x hx)
  have hhi : cnt (fun x => listed.getD x false) (effs recs 0) ≤ cnt (hiP (masks ops.toList []) i) (effs recs 0) := by
    refine cnt_mono fun x _ hx => ?_
    have hxi : Nat.beq x i = false := by
      rw [beq_iff']
      simp only [decide_eq_false_iff_not]
      intro e
      subst e
      rw [hSi] at hx
      cases hx
    unfold hiP
    rw [hxi]
    simp only [Bool.not_false, Bool.true_and]
    split
    · rename_i me hme
      rw [lget_eq] at hme
      cases hb : me.testBit i with
      | false => rfl
      | true =>
        have := masks_anc (ops := ops) (l := ops.toList) (acc := []) (by simp) (by simp) x me hme i hb
        rw [inv.down x i hx this] at hSi
        cases hSi
    · rfl
  have close : ∀ (M' : Map) (H' : Heap) (c : Value) (w' : World), hs[cnt (fun x => (listed.setIfInBounds i true).getD x false) (effs recs 0)]? = some H' → M.le M' → (∀ j, j < h.next → M' j = M j) → h0.next ≤ H'.next → HRel P B w0 M' H' w' → conc M' r.v = some c →
      (∀ (k : Nat) (r' : Rec) (j : Nat) (t : TypeId) (z : List AV), recs[k]? = some r' → r'.kind = .mem j t z → k ≠ i → M j = none → M' j = none) →
      DInv P B w0 M0 h ops n env recs hs h0.next (listed.setIfInBounds i true) (a.put o.dst c) w' := by
    intro M' H' c w' c1 c2 c3 c4 c5 c6 c7
    have hS' := listed_set (i := i) hilt'
    have hput := t.put i r hr
    rw [hro] at hput
    refine ⟨by simp [inv.size], ?_, ?_, ?_, M', H', c1, fun k p hp => c2 k p (eM0 k p hp), fun k hk => (c3 k hk).trans (eK k hk), c4, c5, ?_, ?_, ?_⟩
    · intro x y hx hxy
      rw [hS'] at hx ⊢
      simp only [Bool.or_eq_true] at hx ⊢
      rcases hx with hx | hx
      · exact .inl (inv.down x y hx hxy)
      · have := Nat.eq_of_beq_eq_true hx
        subst this
        exact .inl (hanc y hxy)
    · cases o.dst <;> exact inv.adef
    · cases hd : o.dst with
      | none => exact inv.asz
      | some d => simp [Act.put, inv.asz]
    · intro k r' x hk' hSk hd hmax
      rw [hS'] at hSk
      by_cases hki : k = i
      · subst hki
        rw [hr] at hk'
        simp only [Option.some.injEq] at hk'
        subst hk'
        rw [hro] at hd
        refine ⟨c, c6, ?_⟩
        rw [hd] at hput
        have := aput_lt hput
        rw [hd]
        simp [Act.put, inv.asz, this]
      · have hSk' : listed.getD k false = true := by
          have : Nat.beq k i = false := by rw [beq_iff']; simp [hki]
          simpa [this] using hSk
        by_cases hdi : o.dst = some x
        · have hik : i ≤ k := hmax i r hr (by rw [hS']; simp) (by rw [hro]; exact hdi)
          exact (nolater k r' x (by omega) hk' hSk' hd (by simp [onames, hdi])).elim
        · obtain ⟨c', d1, d2⟩ := eW k r' x hk' hSk' hd fun j r'' hj hSj hdj => hmax j r'' hj (by rw [hS']; simp [hSj]) hdj
          refine ⟨c', conc_mono c2 _ _ d1, ?_⟩
          cases hd' : o.dst with
          | none => exact d2
          | some d =>
            have hne : d ≠ x := fun e => hdi (by rw [hd', e])
            simp only [Act.put]
            rw [Array.getElem?_setIfInBounds_ne hne]
            exact d2
    · intro x v hno hv
      have hdi : o.dst ≠ some x := by
        have := hno i r hr (by rw [hS']; simp)
        rwa [hro] at this
      obtain ⟨c', d1, d2⟩ := eE x v (fun k r' hk' hSk => hno k r' hk' (by rw [hS']; simp [hSk])) hv
      refine ⟨c', conc_mono c2 _ _ d1, ?_⟩
      cases hd' : o.dst with
      | none => exact d2
      | some d =>
        have hne : d ≠ x := fun e => hdi (by rw [hd', e])
        simp only [Act.put]
        rw [Array.getElem?_setIfInBounds_ne hne]
        exact d2
    · intro k r' j t' z hk' hkind hSk
      rw [hS'] at hSk
      simp only [Bool.or_eq_false_iff] at hSk
      have hki : k ≠ i := fun e => by have := hSk.2; rw [e] at this; simp at this
      exact c7 k r' j t' z hk' hkind hki (eF k r' j t' z hk' hkind hSk.1)
  have same : r.isEff = false → hs[cnt (fun x => (listed.setIfInBounds i true).getD x false) (effs recs 0)]? = some H := by
    intro he
    have : cnt (fun x => (listed.setIfInBounds i true).getD x false) (effs recs 0) = cnt (fun x => listed.getD x false) (effs recs 0) := by
      rw [cnt_congr (q := fun x => listed.getD x false || Nat.beq x i) fun x _ => listed_set hilt' x, cnt_add hSi (effs_nodup recs 0), if_neg]
      · rfl
      · intro hmem
        obtain ⟨r', _, h1, h2⟩ := effs_mem.1 hmem
        simp only [Nat.sub_zero, hr, Option.some.injEq] at h1
        subst h1
        rw [he] at h2
        cases h2
    rw [this]
    exact eH
  have memkeep : ∀ (M' : Map) (H' : Heap), Grow H H' M M' → ∀ (k : Nat) (r' : Rec) (j : Nat) (t : TypeId) (z : List AV), recs[k]? = some r' → r'.kind = .mem j t z → k ≠ i → M j = none → M' j = none := by
    intro M' H' g1 k r' j t' z hk' hkd _ hj
    have hf := t.fact k r' hk'
    unfold FactS at hf
    rw [hkd] at hf
    obtain ⟨_, hf2, _⟩ := hf
    have := ((ahoist_next hh).2.2.1 k j t' z (by simpa [Option.join_eq_some_iff] using hf2)).2
    rw [g1.keep j (by omega)]
    exact hj
  have hfact := t.fact i r hr
  unfold wpOp
  rw [ho]
  simp only
  unfold FactS at hfact
  unfold recOkS at hrec
  cases hkind : r.kind with
  | skip =>
    simp only [hkind] at hfact
    obtain ⟨f1, f2⟩ := hfact
    rw [hro, glim_wanted] at f1
    rw [awanted_sound hG f1]
    simp only [Bool.false_eq_true, if_false]
    exact hk _ _ (close M H undef w (same (by simp [Rec.isEff, hkind])) (Map.le.refl M) (fun _ _ => rfl) eN eR (by rw [f2]; exact conc_undef M) (fun _ _ _ _ _ _ _ _ h => h))
  | calm =>
    simp only [hkind] at hfact
    obtain ⟨f1, f2⟩ := hfact
    rw [hro] at f1 f2
    rw [glim_wanted] at f1
    rw [awanted_sound hG f1]
    simp only [if_true]
    exact .inl (f2 H B w0 M w a eR hGR _ _ fun M' c w' g1 g2 g3 => hk _ _ (close M' H c w' (same (by simp [Rec.isEff, hkind])) g1.le (fun j hj => g1.keep j (by have := (ahoist_next hh).2.1; omega)) eN g3 g2 (memkeep M' H g1)))
  | read =>
    simp only [hkind] at hfact hrec
    rw [hro, glim_wanted] at hfact
    rw [awanted_sound hG hfact]
    simp only [if_true]
    have f4 := winS_spec hrec _ H eH (by omega) (by omega)
    rw [hro] at f4
    exact .inl (f4 B w0 M w a eR hGR _ _ fun M' c w' g1 g2 g3 => hk _ _ (close M' H c w' (same (by simp [Rec.isEff, hkind])) g1.le (fun j hj => g1.keep j (by have := (ahoist_next hh).2.1; omega)) eN g3 g2 (memkeep M' H g1)))
  | eff =>
    simp only [hkind, Bool.and_eq_true] at hfact hrec
    obtain ⟨f1, H1, H2, f2, f3, f4⟩ := hfact
    rw [hro] at f1 f4
    rw [glim_wanted] at f1
    rw [awanted_sound hG f1]
    simp only [if_true]
    have e1 := Nat.eq_of_beq_eq_true hrec.1
    have e2 := Nat.eq_of_beq_eq_true hrec.2
    have e3 := ecount_eq recs i 0
    rw [Nat.zero_add] at e3
    have e4 : cnt (fun x => listed.getD x false) (effs recs 0) = ecount (recs.take i) := by omega
    rw [← e4, eH] at f2
    simp only [Option.some.injEq] at f2
    subst f2
    have hS1 : cnt (fun x => (listed.setIfInBounds i true).getD x false) (effs recs 0) = ecount (recs.take i) + 1 := by
      rw [cnt_congr (q := fun x => listed.getD x false || Nat.beq x i) fun x _ => listed_set hilt' x, cnt_add hSi (effs_nodup recs 0), if_pos, e4]
      exact effs_mem.2 ⟨r, Nat.zero_le _, by simpa using hr, by simp [Rec.isEff, hkind]⟩
    exact .inl (f4 B w0 M w a eR hGR _ _ fun M' c w' g1 g2 g3 => hk _ _ (close M' H2 c w' (by rw [hS1]; exact f3) g1.le (fun j hj => g1.keep j (by have := (ahoist_next hh).2.1; omega)) (Nat.le_trans eN g1.next) g3 g2 (memkeep M' H2 g1)))
  | mem j tt z =>
    simp only [hkind] at hfact hrec
    obtain ⟨f1, f2, f3⟩ := hfact
    rw [hro] at f1
    rw [glim_wanted] at f1
    rw [awanted_sound hG f1]
    simp only [if_true]
    have hg := winS_spec hrec _ H eH (by omega) (by omega)
    have hrsi : rs[i]? = some (some (j, tt, z)) := by simpa [Option.join_eq_some_iff] using f2
    obtain ⟨p1, p2⟩ := (ahoist_next hh).2.2.1 i j tt z hrsi
    have hMj := eF i r j tt z hr hkind hSi
    rw [hro, amake_congr (glim_operands (ops := ops))] at f3
    have others : ∀ p, ∀ (k : Nat) (r' : Rec) (j' : Nat) (t' : TypeId) (z' : List AV), recs[k]? = some r' → r'.kind = .mem j' t' z' → k ≠ i → M j' = none → (M.put j p) j' = none := by
      intro p k r' j' t' z' hk' hkd hki hj
      have hf := t.fact k r' hk'
      unfold FactS at hf
      rw [hkd] at hf
      obtain ⟨_, hf2, _⟩ := hf
      have hne : j' ≠ j := fun e' => by
        subst e'
        exact hki ((ahoist_next hh).2.2.2 k i j' _ _ _ _ (by simpa [Option.join_eq_some_iff] using hf2) hrsi)
      simp [Map.put, hne, hj]
    have hjlt : j < H.next := Nat.lt_of_lt_of_le p2 eN
    unfold amake at f3
    split at f3
    · rename_i tt hop
      split at f3
      · rename_i zv p3
        simp only [cond_some, Bool.and_eq_true, Option.some.injEq, Prod.mk.injEq] at f3
        obtain ⟨⟨⟨p7, p8⟩, p9⟩, rfl, rfl, f3⟩ := f3
        have p8 := Nat.eq_of_beq_eq_true p8
        have p9 : 0 < P.cellsOf tt := by simpa [blt_iff] using p9
        obtain ⟨cz, z1, z2⟩ := azero_sound p3 M w
        have hcz := conc_cells z1
        have hclen := concs_length hcz
        have hsz : cz.cells.toList.length = cz.cells.size := by simp
        obtain ⟨g1, g2⟩ := eR.keep hMj hjlt hg (co := .cells cz.cells tt) (cap := 1) ⟨rfl, rfl, p7, p9, (by decide : 1 ≤ maxLen), cz.cells, rfl, by simp; omega, by omega, fun _ => by omega, fun jj aa hj => by
          obtain ⟨x, h1, h2⟩ := concs_get hcz hj
          exact ⟨x, h2, by simpa using h1⟩⟩
        refine .inl ?_
        have hrun : (execOp a.eval o).run P w = .ok (.value (.pointer (some ⟨w.heap.size, 0, none⟩))) { w with heap := w.heap.push (.cells cz.cells tt) } := by
          simp [execOp, hop, Instr.alloc, newVar, newRow, z2]
        unfold Oper.wp
        rw [hrun]
        refine hk _ _ (close _ H _ _ (same (by simp [Rec.isEff, hkind])) g1 (fun k hk' => ?_) eN g2 (by rw [← f3]; simp [conc, Map.put_self]) (others _))
        have : k ≠ j := by omega
        simp [Map.put, this]
      · cases f3
    · rename_i T len parts hop
      split at f3
      · rename_i ps hps
        split at f3
        · rename_i e' es' c' hb
          simp only [Option.some.injEq, Prod.mk.injEq] at f3
          obtain ⟨rfl, rfl, f3⟩ := f3
          obtain ⟨rfl, hinfo, k2, hmax, hcl, arr', h7, hasz, hrun⟩ := abuildCells_sound w hb (aparts_sound hGR hps)
          have hlen' := concs_length h7
          obtain ⟨g1, g2⟩ := eR.keep hMj hjlt hg (co := .cells arr' e') (cap := len) ⟨rfl, rfl, hinfo, k2, hmax, arr', rfl, hasz, by omega, fun _ => by omega, fun jj aa hj => by
            obtain ⟨x, h8, h9⟩ := concs_get h7 hj
            exact ⟨x, h9, by simpa using h8⟩⟩
          refine .inl ?_
          have ea : (parts.map fun p => (p.1, a.eval p.2)) = (parts.toList.map fun p => (p.1, a.eval p.2)).toArray := by apply Array.ext'; simp
          have hrun' : (execOp a.eval o).run P w = .ok (.value (.slice (some ⟨w.heap.size, 0, none⟩) len len)) { w with heap := w.heap.push (.cells arr' e') } := by
            simp only [execOp, hop]
            rw [ea]
            simp [hrun]
          unfold Oper.wp
          rw [hrun']
          refine hk _ _ (close _ H _ _ (same (by simp [Rec.isEff, hkind])) g1 (fun k hk' => ?_) eN g2 (by rw [← f3]; exact conc_slice.2 ⟨_, Map.put_self _ _ _, by simp, by simp⟩) (others _))
          have : k ≠ j := by omega
          simp [Map.put, this]
        · cases f3
      · cases f3
    · cases f3
end
theorem drawS_sound {P : Program} (hm : P.follows .mixedOrders = true) {ops : Array Oper} {n : Nat} {gs : List Guess} {rs : List (Option (Nat × TypeId × List AV))} {env e : Env} {h h0 hl : Heap} {recs : List Rec} {hs : List Heap}
    (hord : ordered ops ops.toList (masks ops.toList []) [] = true) (hh : ahoist P gs h = some (rs, h0)) (t : TracedS P ops n ops.toList rs env h0 recs e hs) (hok : okS P ops hs (effs recs 0) (masks ops.toList []) (masks ops.toList []) recs 0) (hlast : hs.getLast? = some hl)
    {B : Nat} {w0 : World} {M : Map} {a : Act} {w : World} (r : HRel P B w0 M h w) (re : ERel M n env a) {Q : Exit → Act → World → Prop} {id : Nat}
    (hq : ∀ M' a' w', Grow h hl M M' → HRel P B w0 M' hl w' → ERel M' n e a' → Q .normal a' w') : (Code.region id ops true).wp P Q a w := by
  have hlen : recs.length = ops.size := by rw [t.len]; simp
  refine wp_region_any hm ?_
  have main : ∀ (fuel : Nat) (listed : Array Bool) (a : Act) (w : World), cnt (fun x => !listed.getD x false) (List.range ops.size) ≤ fuel → DInv P B w0 M h ops n env recs hs h0.next listed a w → wpAny P .any ops Q fuel listed a w := by
    have fin : ∀ (listed : Array Bool) (a : Act) (w : World), DInv P B w0 M h ops n env recs hs h0.next listed a w → (∀ i, i < ops.size → listed.getD i false = true) → Q .normal a w := by
      intro listed a w inv hall
      obtain ⟨M', H, eH, eM0, eK, eN, eR, eW, eE, eF⟩ := inv.ex
      have hcnt : cnt (fun x => listed.getD x false) (effs recs 0) = ecount recs := by
        have h1 := ecount_eq recs recs.length 0
        rw [List.take_length, Nat.zero_add] at h1
        rw [h1]
        refine cnt_congr fun x hx => ?_
        obtain ⟨r', _, h2, _⟩ := effs_mem.1 hx
        have hx' : x < recs.length := by
          have := (List.getElem?_eq_some_iff.1 h2).1
          simpa using this
        rw [hall x (by omega), blt_iff]
        simp [hx']
      rw [hcnt] at eH
      have hl1 : hs.getLast? = hs[ecount recs]? := by
        rw [List.getLast?_eq_getElem?, t.hlen]
        simp
      rw [hl1, eH] at hlast
      simp only [Option.some.injEq] at hlast
      subst hlast
      refine hq M' a w ⟨eM0, eK, Nat.le_trans (ahoist_next hh).2.1 eN⟩ eR ⟨inv.adef, inv.asz, fun x v hv => ?_⟩
      have hend : envAt recs e recs.length = e := by simp [envAt]
      rcases t.get x recs.length (Nat.le_refl _) with ⟨g1, g2⟩ | ⟨j, r', g1, g2, g3, g4, g5⟩
      · rw [hend, hv] at g2
        refine eE x v (fun k r' hk _ hd => g1 k r' ?_ hk hd) g2.symm
        exact (List.getElem?_eq_some_iff.1 hk).1
      · rw [hend, hv] at g5
        simp only [Option.some.injEq] at g5
        subst g5
        refine eW j r' x g2 (hall j (by omega)) g3 fun k r'' hk _ hd => Nat.le_of_not_lt fun hjk => g4 k r'' hjk ?_ hk hd
        exact (List.getElem?_eq_some_iff.1 hk).1
    have full : ∀ (listed : Array Bool) (a : Act) (w : World), DInv P B w0 M h ops n env recs hs h0.next listed a w → Region.ready .any ops listed = [] → ∀ i, i < ops.size → listed.getD i false = true := by
      intro listed a w inv hr i
      induction i using Nat.strongRecOn with
      | _ i ih =>
        intro hi
        cases hs : listed.getD i false with
        | true => rfl
        | false =>
          exfalso
          have hmem : i ∈ Region.ready .any ops listed := by
            refine mem_ready.2 ⟨?_, ops[i], by simp [hi], fun e he hb => ?_⟩
            · have hi' : i < listed.size := by rw [inv.size]; exact hi
              simp only [Array.getD_eq_getD_getElem?, Array.getElem?_eq_getElem hi'] at hs ⊢
              simpa using hs
            · have := (ordered_spec hord (by simp) (by simp) i ops[i] (by simp [hi])).1 e he hb
              simp only [List.length_nil, Nat.zero_add] at this
              exact ih e.on this (by omega)
          rw [hr] at hmem
          cases hmem
    intro fuel
    induction fuel with
    | zero =>
      intro listed a w hc inv
      have hall : ∀ i, i < ops.size → listed.getD i false = true := by
        intro i hi
        cases hs : listed.getD i false with
        | true => rfl
        | false =>
          have := count_unlisted hi inv.size hs
          omega
      refine ⟨?_, fin listed a w inv hall⟩
      cases hr : Region.ready .any ops listed with
      | nil => rfl
      | cons x xs =>
        have hx := mem_ready.1 (show x ∈ Region.ready .any ops listed by rw [hr]; simp)
        obtain ⟨h1, o, h2, _⟩ := hx
        have hlt := (Array.getElem?_eq_some_iff.1 h2).1
        have h3 := hall x hlt
        have hi' : x < listed.size := by rw [inv.size]; exact hlt
        simp only [Array.getD_eq_getD_getElem?, Array.getElem?_eq_getElem hi'] at h1 h3
        simp at h1 h3
        rw [h1] at h3
        cases h3
    | succ fuel ih =>
      intro listed a w hc inv
      refine ⟨fun hr => fin listed a w inv (full listed a w inv hr), fun i hi => ?_⟩
      refine inv.stepS hord hh t hok hi fun a' w' inv' => ih _ a' w' ?_ inv'
      obtain ⟨h1, o, h2, _⟩ := mem_ready.1 hi
      have hlt := (Array.getElem?_eq_some_iff.1 h2).1
      have hi' : i < listed.size := by rw [inv.size]; exact hlt
      have hs : listed.getD i false = false := by
        simp only [Array.getD_eq_getD_getElem?, Array.getElem?_eq_getElem hi'] at h1 ⊢
        simpa using h1
      have := count_unlisted hlt inv.size hs
      omega
  have hrep : ∀ x, (Array.replicate ops.size false).getD x false = false := fun x => by
    simp only [Array.getD_eq_getD_getElem?, Array.getElem?_replicate]
    split <;> rfl
  have hz : ∀ l : List Nat, cnt (fun x => (Array.replicate ops.size false).getD x false) l = 0 := fun l => by
    induction l with
    | nil => rfl
    | cons x l ih => simp only [cnt, hrep x, cond_false, ih]
  refine main ops.size _ _ _ ?_ ⟨by simp, fun i j hi => (by rw [hrep i] at hi; cases hi), re.defers, re.size, M, h0, ?_, Map.le.refl M, fun _ _ => rfl, Nat.le_refl _, ahoist_rel hh r.drew, ?_, fun t v _ hv => re.get t v hv, ?_⟩
  · have : ∀ (p : Nat → Bool) (l : List Nat), cnt p l ≤ l.length := fun p l => by
      induction l with
      | nil => exact Nat.le_refl _
      | cons x l ih => simp only [cnt, List.length_cons]; cases p x <;> simp <;> omega
    have := this (fun x => !(Array.replicate ops.size false).getD x false) (List.range ops.size)
    simpa using this
  · rw [hz, ← List.head?_eq_getElem?]
    exact t.head
  · intro i r' x _ hi
    rw [hrep i] at hi
    cases hi
  · intro i r' j tt z hi hk _
    have hf := t.fact i r' hi
    unfold FactS at hf
    rw [hk] at hf
    obtain ⟨_, hf2, _⟩ := hf
    have := ((ahoist_next hh).2.2.1 i j tt z (by simpa [Option.join_eq_some_iff] using hf2)).1
    exact r.fresh j this
def RD (P : Program) (n : Nat) (ops : Array Oper) (l : List Oper) (rs : List (Option (Nat × TypeId × List AV))) (env : Env) (h : Heap) (K : List Rec → Env → List Heap → Prop) : Prop :=
  ∃ recs env' hs, TracedS P ops n l rs env h recs env' hs ∧ K recs env' hs
theorem RD.nil {P : Program} {n : Nat} {ops : Array Oper} {env : Env} {h : Heap} {K : List Rec → Env → List Heap → Prop} (k : K [] env [h]) : RD P n ops [] [] env h K :=
  ⟨[], env, [h], ⟨rfl, rfl, rfl, rfl, rfl, by simp, by simp, by simp⟩, k⟩
theorem RD.skip {P : Program} {n : Nat} {ops : Array Oper} {o : Oper} {l : List Oper} {r0 : Option (Nat × TypeId × List AV)} {rs : List (Option (Nat × TypeId × List AV))} {env env1 : Env} {h : Heap} {K : List Rec → Env → List Heap → Prop}
    (hw : awanted ops (aeval env) o = some false) (hp : aput env n o.dst (.tuple []) = some env1) (rest : RD P n ops l rs env1 h fun recs e hs => K (⟨o, env, .skip, .tuple []⟩ :: recs) e hs) : RD P n ops (o :: l) (r0 :: rs) env h K := by
  obtain ⟨recs, e, hs, t, k⟩ := rest
  exact ⟨_, e, hs, t.cons (r := ⟨o, env, .skip, .tuple []⟩) hp (.inl ⟨rfl, rfl, rfl⟩) ⟨hw, rfl⟩, k⟩
theorem RD.calm {P : Program} {n : Nat} {ops : Array Oper} {o : Oper} {l : List Oper} {r0 : Option (Nat × TypeId × List AV)} {rs : List (Option (Nat × TypeId × List AV))} {env env1 : Env} {h : Heap} {v : AV} {K : List Rec → Env → List Heap → Prop}
    (hw : awanted ops (aeval env) o = some true) (ho : ∀ H, OSem P o (glim (o.looksAt ops) env) H v H) (hp : aput env n o.dst v = some env1) (rest : RD P n ops l rs env1 h fun recs e hs => K (⟨o, env, .calm, v⟩ :: recs) e hs) : RD P n ops (o :: l) (r0 :: rs) env h K := by
  obtain ⟨recs, e, hs, t, k⟩ := rest
  exact ⟨_, e, hs, t.cons (r := ⟨o, env, .calm, v⟩) hp (.inl ⟨rfl, rfl, rfl⟩) ⟨hw, ho⟩, k⟩
theorem RD.read {P : Program} {n : Nat} {ops : Array Oper} {o : Oper} {l : List Oper} {r0 : Option (Nat × TypeId × List AV)} {rs : List (Option (Nat × TypeId × List AV))} {env env1 : Env} {h : Heap} {v : AV} {K : List Rec → Env → List Heap → Prop}
    (hw : awanted ops (aeval env) o = some true) (ho : OSem P o (glim (o.looksAt ops) env) h v h) (hp : aput env n o.dst v = some env1) (rest : OSem P o (glim (o.looksAt ops) env) h v h → RD P n ops l rs env1 h fun recs e hs => K (⟨o, env, .read, v⟩ :: recs) e hs) : RD P n ops (o :: l) (r0 :: rs) env h K := by
  obtain ⟨recs, e, hs, t, k⟩ := rest ho
  exact ⟨_, e, hs, t.cons (r := ⟨o, env, .read, v⟩) hp (.inl ⟨rfl, rfl, rfl⟩) hw, k⟩
theorem RD.eff {P : Program} {n : Nat} {ops : Array Oper} {o : Oper} {l : List Oper} {r0 : Option (Nat × TypeId × List AV)} {rs : List (Option (Nat × TypeId × List AV))} {env env1 : Env} {h h1 : Heap} {v : AV} {K : List Rec → Env → List Heap → Prop}
    (hw : awanted ops (aeval env) o = some true) (ho : OSem P o (glim (o.looksAt ops) env) h v h1) (hp : aput env n o.dst v = some env1) (rest : RD P n ops l rs env1 h1 fun recs e hs => K (⟨o, env, .eff, v⟩ :: recs) e (h :: hs)) : RD P n ops (o :: l) (r0 :: rs) env h K := by
  obtain ⟨recs, e, hs, t, k⟩ := rest
  have hh : hs[0]? = some h1 := by rw [← List.head?_eq_getElem?]; exact t.head
  exact ⟨_, e, _, t.cons (r := ⟨o, env, .eff, v⟩) hp (.inr ⟨rfl, rfl⟩) ⟨hw, h, h1, rfl, by simpa using hh, ho⟩, k⟩
theorem RD.mem {P : Program} {n : Nat} {ops : Array Oper} {o : Oper} {l : List Oper} {i : Nat} {t : TypeId} {z : List AV} {rs : List (Option (Nat × TypeId × List AV))} {env env1 : Env} {h : Heap} {v : AV} {K : List Rec → Env → List Heap → Prop}
    (hw : awanted ops (aeval env) o = some true) (hk : amake P o.op (aeval env) i = some (t, z, v)) (hp : aput env n o.dst v = some env1) (rest : RD P n ops l rs env1 h fun recs e hs => K (⟨o, env, .mem i t z, v⟩ :: recs) e hs) : RD P n ops (o :: l) (some (i, t, z) :: rs) env h K := by
  obtain ⟨recs, e, hs, tr, k⟩ := rest
  exact ⟨_, e, hs, tr.cons (r := ⟨o, env, .mem i t z, v⟩) hp (.inl ⟨rfl, rfl, rfl⟩) ⟨hw, rfl, hk⟩, k⟩
def RDk (P : Program) (ops : Array Oper) (ms : List Nat) (Post : APost) (recs : List Rec) (e : Env) (hs : List Heap) : Prop :=
  okS P ops hs (effs recs 0) ms ms recs 0 ∧ ∃ hl, hs.getLast? = some hl ∧ Post .normal e hl
theorem RS.draw {P : Program} (hm : P.follows .mixedOrders = true) {N n id : Nat} {ops : Array Oper} {env : Env} {h h0 : Heap} {Post : APost} {gs : List Guess} {rs : List (Option (Nat × TypeId × List AV))} {ms : List Nat} (hms : masks ops.toList [] = ms) (hord : ordered ops ops.toList ms [] = true) (hh : ahoist P gs h = some (rs, h0))
    (k : RD P n ops ops.toList rs env h0 (RDk P ops ms Post)) : RS P N n (.region id ops true) env h Post := by
  subst hms
  intro B w0 M a w r hN re Q hq
  obtain ⟨recs, e, hs, t, hok, hl, hlast, hp⟩ := k
  exact drawS_sound hm hord hh t hok hlast r re fun M' a' w' g r' re' => hq .normal e hl M' a' w' hp (g.keepN hN) (Nat.le_trans hN g.next) r' re'
end Go.Am
namespace Go.Am
open Go Go.RowKit
variable {P : Program} {ext : FuncId → Bool} {d : Option Tmp} {ty : TypeId} {pos : String} {af : Array Edge} {gd : Option (Nat × Bool)} {g : Ev} {h : Heap}
def isShift : BinOp → Bool
  | .and | .shr => true
  | _ => false
theorem abin_ii {op : BinOp} {t : TypeId} {x y : Operand} {k : IntKind} {a b : Int} : abin P op t x y (.int k a) (.int k b) = bif ikeq k k then (match op with
      | .and => bif ikeq k .u64 then aand a b else none
      | .shr => bif ikeq k .u64 then ashr a b else none
      | _ => aArith op k a b)
    else match op with
      | .shr => bif ikeq k .u64 then ashr a b else none
      | _ => none := rfl
theorem abin_i {op : BinOp} {t : TypeId} {x y : Operand} {k : IntKind} {a b : Int} (hk : ikeq k k = true) (ho : isShift op = false) : abin P op t x y (.int k a) (.int k b) = aArith op k a b := by
  rw [abin_ii, hk, cond_true]
  cases op <;> first | rfl | cases ho
theorem OSem.bin (hext : ExtOk P ext) {op : BinOp} {t t' : TypeId} {x y : Operand} {a b v : AV} (hx : g x = some a) (hy : g y = some b) (hv : abin P op t x y a b = some v) :
    OSem P ⟨d, .binOp op t x y t', ty, pos, af, gd⟩ g h v h := OSem.val hext (by simp [aop, b1, hx, hy, hv, aval])
theorem OSem.lss (hext : ExtOk P ext) {t t' : TypeId} {x y : Operand} {k : IntKind} {a b : Int} (hx : g x = some (.int k a)) (hy : g y = some (.int k b)) (hk : ikeq k k = true) :
    OSem P ⟨d, .binOp .lss t x y t', ty, pos, af, gd⟩ g h (.bool (decide (a < b))) h := OSem.bin hext hx hy (by rw [abin_i hk rfl]; simp [aArith, ilt_iff])
theorem OSem.gtr (hext : ExtOk P ext) {t t' : TypeId} {x y : Operand} {k : IntKind} {a b : Int} (hx : g x = some (.int k a)) (hy : g y = some (.int k b)) (hk : ikeq k k = true) :
    OSem P ⟨d, .binOp .gtr t x y t', ty, pos, af, gd⟩ g h (.bool (decide (b < a))) h := OSem.bin hext hx hy (by rw [abin_i hk rfl]; simp [aArith, ilt_iff])
theorem not_lt_dec (a b : Int) : (!decide (a < b)) = decide (b ≤ a) := by rw [Bool.eq_iff_iff]; simp
theorem OSem.leq (hext : ExtOk P ext) {t t' : TypeId} {x y : Operand} {k : IntKind} {a b : Int} (hx : g x = some (.int k a)) (hy : g y = some (.int k b)) (hk : ikeq k k = true) :
    OSem P ⟨d, .binOp .leq t x y t', ty, pos, af, gd⟩ g h (.bool (decide (a ≤ b))) h := OSem.bin hext hx hy (by rw [← not_lt_dec, abin_i hk rfl]; simp only [aArith, ilt_iff])
theorem OSem.geq (hext : ExtOk P ext) {t t' : TypeId} {x y : Operand} {k : IntKind} {a b : Int} (hx : g x = some (.int k a)) (hy : g y = some (.int k b)) (hk : ikeq k k = true) :
    OSem P ⟨d, .binOp .geq t x y t', ty, pos, af, gd⟩ g h (.bool (decide (b ≤ a))) h := OSem.bin hext hx hy (by rw [← not_lt_dec, abin_i hk rfl]; simp only [aArith, ilt_iff])
theorem OSem.eqi (hext : ExtOk P ext) {t t' : TypeId} {x y : Operand} {k : IntKind} {a b : Int} (hx : g x = some (.int k a)) (hy : g y = some (.int k b)) (hk : ikeq k k = true) :
    OSem P ⟨d, .binOp .eql t x y t', ty, pos, af, gd⟩ g h (.bool (decide (a = b))) h := OSem.bin hext hx hy (by rw [abin_i hk rfl]; simp [aArith, ieq_iff])
theorem OSem.nei (hext : ExtOk P ext) {t t' : TypeId} {x y : Operand} {k : IntKind} {a b : Int} (hx : g x = some (.int k a)) (hy : g y = some (.int k b)) (hk : ikeq k k = true) :
    OSem P ⟨d, .binOp .neq t x y t', ty, pos, af, gd⟩ g h (.bool (!decide (a = b))) h := OSem.bin hext hx hy (by rw [abin_i hk rfl]; simp [aArith, ieq_iff])
theorem OSem.eqs (hext : ExtOk P ext) {t t' : TypeId} {x y : Operand} {a b : List UInt8} (hx : g x = some (.str a)) (hy : g y = some (.str b)) :
    OSem P ⟨d, .binOp .eql t x y t', ty, pos, af, gd⟩ g h (.bool (decide (a = b))) h := OSem.bin hext hx hy (by rw [abin_str]; simp [aStr, lbeq_iff])
theorem OSem.nes (hext : ExtOk P ext) {t t' : TypeId} {x y : Operand} {a b : List UInt8} (hx : g x = some (.str a)) (hy : g y = some (.str b)) :
    OSem P ⟨d, .binOp .neq t x y t', ty, pos, af, gd⟩ g h (.bool (!decide (a = b))) h := OSem.bin hext hx hy (by rw [abin_str]; simp [aStr, lbeq_iff])
theorem OSem.addI (hext : ExtOk P ext) {t t' : TypeId} {x y : Operand} {a b : Int} (hx : g x = some (.int .i64 a)) (hy : g y = some (.int .i64 b)) (hi : -9223372036854775808 ≤ a + b ∧ a + b < 9223372036854775808) :
    OSem P ⟨d, .binOp .add t x y t', ty, pos, af, gd⟩ g h (.int .i64 (a + b)) h := OSem.add hext hx hy (inI_i64 hi.1 hi.2)
theorem OSem.subI (hext : ExtOk P ext) {t t' : TypeId} {x y : Operand} {a b : Int} (hx : g x = some (.int .i64 a)) (hy : g y = some (.int .i64 b)) (hi : -9223372036854775808 ≤ a - b ∧ a - b < 9223372036854775808) :
    OSem P ⟨d, .binOp .sub t x y t', ty, pos, af, gd⟩ g h (.int .i64 (a - b)) h := OSem.sub hext hx hy (inI_i64 hi.1 hi.2)
theorem OSem.catS (hext : ExtOk P ext) {t t' : TypeId} {x y : Operand} {a b : List UInt8} (hx : g x = some (.str a)) (hy : g y = some (.str b)) (hl : a.length + b.length ≤ 1000000) :
    OSem P ⟨d, .binOp .add t x y t', ty, pos, af, gd⟩ g h (.str (a ++ b)) h := OSem.cat hext hx hy (by rw [aStr, show Nat.ble (a.length + b.length) 1000000 = true from by simpa using hl]; rfl)
theorem OSem.lenS (hext : ExtOk P ext) {c : Call} {t : TypeId} {x : Operand} {s : List UInt8} (hc : c.callee = .builtin .len) (ht : c.argTypes.toList = [t]) (ha : c.args.toList = [x]) (hx : g x = some (.str s)) (hu : P.underlying t = some .string) :
    OSem P ⟨d, .call c, ty, pos, af, gd⟩ g h (.int .i64 (s.length : Int)) h := OSem.val hext (by simp [aop, hc, ht, ha, aevals, hx, abuiltin, alen, hu, aval])
theorem OSem.lenL (hext : ExtOk P ext) {c : Call} {t e : TypeId} {x : Operand} {i k len es : Nat} (hc : c.callee = .builtin .len) (ht : c.argTypes.toList = [t]) (ha : c.args.toList = [x]) (hx : g x = some (.slice i k len es)) (hu : P.underlying t = some (.slice e)) :
    OSem P ⟨d, .call c, ty, pos, af, gd⟩ g h (.int .i64 (len : Int)) h := OSem.val hext (by simp [aop, hc, ht, ha, aevals, hx, abuiltin, alen, hu, aval])
theorem OSem.idxS (hext : ExtOk P ext) {t : TypeId} {x y : Operand} {s : List UInt8} {kd : IntKind} {n : Int} {m : Nat} {b : UInt8} (hx : g x = some (.str s)) (hy : g y = some (.int kd n)) (hu : P.underlying t = some .string) (hn : n = (m : Int)) (hb : s[m]? = some b) :
    OSem P ⟨d, .index t x y, ty, pos, af, gd⟩ g h (.int .u8 (b.toNat : Int)) h := by
  subst hn
  exact OSem.val hext (by simp [aop, b1, hx, hy, aindex, natOf, hu, lget_eq, hb, aval])
theorem OSem.idxL (hext : ExtOk P ext) {t e : TypeId} {x y : Operand} {i len es : Nat} {m : Nat} {kd : IntKind} {n : Int} (hx : g x = some (.slice i 0 len es)) (hy : g y = some (.int kd n)) (hu : P.underlying t = some (.slice e)) (hi : (P.info? e).isSome = true) (hes : Nat.beq (P.cellsOf e) es = true)
    (hn : n = (m : Int)) (hlt : m < len) : OSem P ⟨d, .indexAddr t x y, ty, pos, af, gd⟩ g h (.ptr i (m * es)) h := by
  have := OSem.indexAddr (d := d) (ty := ty) (pos := pos) (af := af) (gd := gd) (h := h) hext hx hy hu hi hes (m := m) hn hlt
  simpa using this
theorem abound_le {k : IntKind} {n : Int} {m most dflt : Nat} (hn : n = (m : Int)) (hm : m ≤ most) : abound (some (.int k n)) dflt most = some m := by
  subst hn
  have : Nat.ble m most = true := by simpa using hm
  simp only [abound, natOf, this, cond_true]
theorem OSem.subS (hext : ExtOk P ext) {t : TypeId} {x : Operand} {lo hi : Option Operand} {s : List UInt8} {l u : Option AV} {a b : Nat} (hx : g x = some (.str s)) (hl : aopt g lo = some l) (hu : aopt g hi = some u) (ht : P.underlying t = some .string)
    (hb : abound u s.length s.length = some b) (ha : abound l 0 b = some a) : OSem P ⟨d, .slice t x lo hi none, ty, pos, af, gd⟩ g h (.str ((s.take b).drop a)) h :=
  OSem.val hext (by simp [aop, b1, hx, hl, hu, aslice, ht, hb, ha, aval])
theorem OSem.subL (hext : ExtOk P ext) {t e : TypeId} {x : Operand} {hi : Option Operand} {i k len es : Nat} {u : Option AV} {b : Nat} (hx : g x = some (.slice i k len es)) (hu : aopt g hi = some u) (ht : P.underlying t = some (.slice e)) (hi' : (P.info? e).isSome = true) (hes : Nat.beq (P.cellsOf e) es = true)
    (hb : abound u len len = some b) : OSem P ⟨d, .slice t x none hi none, ty, pos, af, gd⟩ g h (.slice i k b es) h := by
  have h1 : aslice P t (.slice i k len es) none u = some (.slice i k b es) := by
    have h0 : abound none 0 b = some 0 := rfl
    simp [aslice, ht, hb, h0, hi', hes]
  have h2 : aopt g none = some none := rfl
  exact OSem.val hext (by simp only [aop, b1, hx, h2, hu, h1, aval])
theorem OSem.convI (hext : ExtOk P ext) {s t : TypeId} {x : Operand} {D : TypeDesc} {k k' : IntKind} {n : Int} (hx : g x = some (.int k n)) (hs : P.underlying s = some D) (ht : P.underlying t = some (.int k')) (hi : inI k' n = true) : OSem P ⟨d, .convert s t x, ty, pos, af, gd⟩ g h (.int k' n) h :=
  OSem.val hext (by simp [aop, b1, hx, aconv, hs, ht, hi, aval])
theorem OSem.maxI (hext : ExtOk P ext) {c : Call} {x y : Operand} {k : IntKind} {a b : Int} (hc : c.callee = .builtin .max) (ha : c.args.toList = [x, y]) (hx : g x = some (.int k a)) (hy : g y = some (.int k b)) :
    OSem P ⟨d, .call c, ty, pos, af, gd⟩ g h (.int k (max a b)) h := OSem.val hext (by
  have : (bif ilt a b then b else a) = max a b := by
    rw [ilt_iff]
    by_cases h : a < b
    · simp [h]; omega
    · simp [h]; omega
  simp [aop, hc, ha, aevals, hx, hy, abuiltin, amax, aval, this])
theorem flat_len {α : Type} {es : Nat} {row : α → List AV} (hrow : ∀ x, (row x).length = es) (L : List α) : (L.flatMap row).length = L.length * es := by
  induction L with
  | nil => simp
  | cons a L ih => simp [ih, hrow, Nat.add_mul]; omega
theorem flat_one {α : Type} {es : Nat} {row : α → List AV} (hrow : ∀ x, (row x).length = es) {L : List α} {m : Nat} {a : α} (hm : L[m]? = some a) {off j : Nat} {v : AV} (hoff : off = m * es + j) (hv : (row a)[j]? = some v) : takeN 1 ((L.flatMap row).drop off) = some [v] := by
  have hj : j < es := by have := (List.getElem?_eq_some_iff.1 hv).1; rwa [hrow] at this
  rw [hoff, flat_take hrow hm (j := j) (n := 1) (by omega)]
  congr 1
  rw [List.take_one]
  simp [List.head?_drop, hv]
theorem flat_row {α : Type} {es : Nat} {row : α → List AV} (hrow : ∀ x, (row x).length = es) {L : List α} {m : Nat} {a : α} (hm : L[m]? = some a) {off : Nat} (hoff : off = m * es) : takeN es ((L.flatMap row).drop off) = some (row a) := by
  rw [hoff, show m * es = m * es + 0 from rfl, flat_take hrow hm (j := 0) (n := es) (by omega)]
  simp [← hrow a]
theorem map_one {α : Type} {f : α → AV} {L : List α} {m : Nat} {a : α} (hm : L[m]? = some a) : takeN 1 ((L.map f).drop m) = some [f a] := by
  rw [takeN_of (by have := (List.getElem?_eq_some_iff.1 hm).1; simp; omega)]
  congr 1
  rw [List.take_one]
  simp [List.head?_drop, hm]
theorem plains_map {α : Type} {f : α → AV} (hf : ∀ x, plain1 (f x) = true) : ∀ L : List α, plains (L.map f) = true
  | [] => rfl
  | a :: L => by simp [plains, hf, plains_map hf L]
theorem plains_append : ∀ {a b : List AV}, plains a = true → plains b = true → plains (a ++ b) = true
  | [], b, _, hb => hb
  | x :: a, b, ha, hb => by
    simp only [plains, Bool.and_eq_true] at ha
    simp only [List.cons_append, plains, ha.1, plains_append ha.2 hb, Bool.and_self]
theorem plains_flat {α : Type} {row : α → List AV} (hf : ∀ x, plains (row x) = true) : ∀ L : List α, plains (L.flatMap row) = true
  | [] => rfl
  | a :: L => by rw [List.flatMap_cons]; exact plains_append (hf a) (plains_flat hf L)
theorem aappend_one {t u : TypeId} {e : TypeId} {inf : TypeInfo} {z : AV} {es j n q : Nat} {c olds news : List AV} {ex : Bool} {h1 : Heap} {h' : Heap} {j' : Nat} (ht : P.underlying t = some (.slice e)) (hu : P.underlying u = some (.slice e)) (hi : P.info? e = some inf) (hz : azero P e = some z) (hzl : Nat.beq z.cells.length es = true) (hes : P.cellsOf e = es) (he0 : Nat.blt 0 es = true)
    (hn : acells h q 0 (1 * es) = some news) (hone : allOne news = true) (hg : h.objs.get j = some (.cells e es c ex)) (ho : acells h j 0 (n * es) = some olds) (hb : n + 1 ≤ 1000000) (hb2 : (n + 1) * inf.bytes ≤ 1000000000) (hp : h.put j none = some h1) (ha : h1.add (.cells e es (olds ++ news) false) = some (j', h')) :
    aappend P h t u (.slice j 0 n es) (.slice q 0 1 es) = some (.slice j' 0 (n + 1) es, h') := by
  subst hes
  have h1' : Nat.ble (n + 1) 1000000 = true := by simpa using hb
  have h2' : Nat.ble ((n + 1) * inf.bytes) 1000000000 = true := by simpa using hb2
  have h3 : elemIs h j e = true := by simp [elemIs, hg]
  have hq : acells h q (0 * P.cellsOf e) (1 * P.cellsOf e) = some news := by rw [Nat.zero_mul]; exact hn
  have h4 : asource P h u (P.cellsOf e) (.slice q 0 1 (P.cellsOf e)) = some (1, news) := by simp only [asource, hu, hq, Nat.beq_refl, cond_true]
  simp only [aappend, ht, hi, hz, hzl, he0, cond_true, h4, hone, h3, h1', h2', ho, hp, ha, Nat.beq_refl]
  rfl
theorem aappend_nil {t u : TypeId} {e : TypeId} {inf : TypeInfo} {z : AV} {es m k q : Nat} {news : List AV} {h' : Heap} {j' : Nat} (ht : P.underlying t = some (.slice e)) (hu : P.underlying u = some (.slice e)) (hi : P.info? e = some inf) (hz : azero P e = some z) (hzl : Nat.beq z.cells.length es = true) (hes : P.cellsOf e = es) (he0 : Nat.blt 0 es = true)
    (hn : acells h q (k * es) (m * es) = some news) (hone : allOne news = true) (hm : m ≠ 0) (hb : m ≤ 1000000) (hb2 : m * inf.bytes ≤ 1000000000) (ha : h.add (.cells e es news false) = some (j', h')) :
    aappend P h t u .nilslice (.slice q k m es) = some (.slice j' 0 m es, h') := by
  subst hes
  have h1' : Nat.ble m 1000000 = true := by simpa using hb
  have h2' : Nat.ble (m * inf.bytes) 1000000000 = true := by simpa using hb2
  have h4 : asource P h u (P.cellsOf e) (.slice q k m (P.cellsOf e)) = some (m, news) := by simp only [asource, hu, hn, Nat.beq_refl, cond_true]
  have h5 : Nat.beq m 0 = false := by rw [beq_iff']; simp [hm]
  simp only [aappend, ht, hi, hz, hzl, he0, cond_true, h4, hone, h1', h2', h5, ha, cond_false]
theorem OSem.app (hext : ExtOk P ext) {c : Call} {t u : TypeId} {x y : Operand} {a b v : AV} {h' : Heap} (hc : c.callee = .builtin .append) (ht : c.argTypes.toList = [t, u]) (ha : c.args.toList = [x, y]) (hx : g x = some a) (hy : g y = some b) (hv : aappend P h t u a b = some (v, h')) :
    OSem P ⟨d, .call c, ty, pos, af, gd⟩ g h v h' := OSem.val hext (by simp [aop, hc, ht, ha, aevals, hx, hy, abuiltin, hv, avalh])
theorem OSem.fn (hext : ExtOk P ext) {c : Call} {f : FuncId} {args : List AV} {v : AV} {h' : Heap} {fi : FInfo} (hc : c.callee = .value (.func f)) (ha : aevals g c.args.toList = some args) (hg : g (.func f) = some (.func (.func f) [] [])) (hf : finfo P f = some fi) (hs : CSem P f args h v h') :
    OSem P ⟨d, .call c, ty, pos, af, gd⟩ g h v h' := OSem.call hext (f := f) (args := args) (h1 := h) (by simp [aop, hc, b1, hg, ha, hf]) hs
end Go.Am
namespace Go.Am
open Go Go.RowKit
abbrev Mems := List (Nat × TypeId × List AV)
def Quiet (P : Program) (ops : Array Oper) (h : Heap) (r : Rec) : Prop :=
  r.kind = .skip ∨ (r.kind = .read ∧ OSem P r.o (glim (r.o.looksAt ops) r.env) h r.v h) ∨ ∃ j t z, r.kind = .mem j t z ∧ h.objs.get j = some (.cells t (P.cellsOf t) z true)
def RQ (P : Program) (n : Nat) (ops : Array Oper) (l : List Oper) (mem : Mems) (env : Env) (h : Heap) (Post : APost) : Prop :=
  ∃ rs : List (Option (Nat × TypeId × List AV)), rs.length = l.length ∧ rs.filterMap id = mem ∧ RD P n ops l rs env h fun recs e hs => hs = [h] ∧ (∀ r ∈ recs, Quiet P ops h r) ∧ Post .normal e h
theorem RQ.nil {P : Program} {n : Nat} {ops : Array Oper} {env : Env} {h : Heap} {Post : APost} (hp : Post .normal env h) : RQ P n ops [] [] env h Post :=
  ⟨[], rfl, rfl, RD.nil ⟨rfl, by simp, hp⟩⟩
theorem RD.mono {P : Program} {n : Nat} {ops : Array Oper} {l : List Oper} {rs : List (Option (Nat × TypeId × List AV))} {env : Env} {h : Heap} {K K' : List Rec → Env → List Heap → Prop} (r : RD P n ops l rs env h K) (k : ∀ a b c, K a b c → K' a b c) : RD P n ops l rs env h K' :=
  let ⟨a, b, c, t, x⟩ := r
  ⟨a, b, c, t, k a b c x⟩
theorem RQ.step {P : Program} {n : Nat} {ops : Array Oper} {o : Oper} {l : List Oper} {mem : Mems} {env env1 : Env} {h : Heap} {v : AV} {Post : APost} (hw : awanted ops (aeval env) o = some true) (ho : OSem P o (glim (o.looksAt ops) env) h v h) (hp : aput env n o.dst v = some env1) (rest : RQ P n ops l mem env1 h Post) : RQ P n ops (o :: l) mem env h Post := by
  obtain ⟨rs, l1, l2, rest⟩ := rest
  refine ⟨none :: rs, by simp [l1], by simpa using l2, RD.read hw ho hp fun _ => rest.mono ?_⟩
  rintro recs e hs ⟨h1, h2, h3⟩
  refine ⟨h1, fun r hr => ?_, h3⟩
  rcases List.mem_cons.1 hr with rfl | hr
  · exact .inr (.inl ⟨rfl, ho⟩)
  · exact h2 r hr
theorem RQ.skip {P : Program} {n : Nat} {ops : Array Oper} {o : Oper} {l : List Oper} {mem : Mems} {env env1 : Env} {h : Heap} {Post : APost} (hw : awanted ops (aeval env) o = some false) (hp : aput env n o.dst (.tuple []) = some env1) (rest : RQ P n ops l mem env1 h Post) : RQ P n ops (o :: l) mem env h Post := by
  obtain ⟨rs, l1, l2, rest⟩ := rest
  refine ⟨none :: rs, by simp [l1], by simpa using l2, RD.skip hw hp (RD.mono rest ?_)⟩
  rintro recs e hs ⟨h1, h2, h3⟩
  refine ⟨h1, fun r hr => ?_, h3⟩
  rcases List.mem_cons.1 hr with rfl | hr
  · exact .inl rfl
  · exact h2 r hr
theorem RQ.mem {P : Program} {n : Nat} {ops : Array Oper} {o : Oper} {l : List Oper} {i : Nat} {t : TypeId} {z : List AV} {mem : Mems} {env env1 : Env} {h : Heap} {v : AV} {Post : APost} (hw : awanted ops (aeval env) o = some true) (hk : amake P o.op (aeval env) i = some (t, z, v)) (hg : h.objs.get i = some (.cells t (P.cellsOf t) z true)) (hp : aput env n o.dst v = some env1) (rest : RQ P n ops l mem env1 h Post) : RQ P n ops (o :: l) ((i, t, z) :: mem) env h Post := by
  obtain ⟨rs, l1, l2, rest⟩ := rest
  refine ⟨some (i, t, z) :: rs, by simp [l1], by simpa using l2, RD.mem hw hk hp (RD.mono rest ?_)⟩
  rintro recs e hs ⟨h1, h2, h3⟩
  refine ⟨h1, fun r hr => ?_, h3⟩
  rcases List.mem_cons.1 hr with rfl | hr
  · exact .inr (.inr ⟨i, t, z, rfl, hg⟩)
  · exact h2 r hr
theorem RQ.stepB {P : Program} {n : Nat} {ops : Array Oper} {o : Oper} {l : List Oper} {mem : Mems} {env envT envF : Env} {h : Heap} {b : Bool} {Post : APost} (hw : awanted ops (aeval env) o = some true) (ho : OSem P o (glim (o.looksAt ops) env) h (.bool b) h)
    (hpT : aput env n o.dst (.bool true) = some envT) (hpF : aput env n o.dst (.bool false) = some envF) (rT : b = true → RQ P n ops l mem envT h Post) (rF : b = false → RQ P n ops l mem envF h Post) : RQ P n ops (o :: l) mem env h Post := by
  cases b with
  | true => exact .step hw ho hpT (rT rfl)
  | false => exact .step hw ho hpF (rF rfl)
theorem winS_one {p : Heap → Prop} {lo hi : Nat} {h : Heap} (hp : p h) : winS p lo hi [h] 0 := by
  refine ⟨?_, True.intro⟩
  cases (Nat.ble lo 0 && Nat.ble 0 hi)
  · exact True.intro
  · exact hp
theorem okS_quiet {P : Program} {ops : Array Oper} {h : Heap} {es ms : List Nat} : ∀ {l : List Nat} {recs : List Rec} {i : Nat}, l.length = recs.length → (∀ r ∈ recs, Quiet P ops h r) → okS P ops [h] es ms l recs i
  | [], [], _, _, _ => True.intro
  | _ :: _, [], _, h, _ => by simp at h
  | [], _ :: _, _, h, _ => by simp at h
  | m :: l, r :: recs, i, hl, hq => by
    refine ⟨?_, okS_quiet (by simpa using hl) fun r' hr' => hq r' (List.mem_cons_of_mem _ hr')⟩
    rcases hq r (List.mem_cons_self ..) with h1 | ⟨h1, h2⟩ | ⟨j, t, z, h1, h2⟩
    · unfold recOkS; rw [h1]; exact True.intro
    · unfold recOkS; rw [h1]; exact winS_one h2
    · unfold recOkS; rw [h1]; exact winS_one h2
theorem masks_length : ∀ (l : List Oper) (acc : List Nat), (masks l acc).length = acc.length + l.length
  | [], acc => rfl
  | o :: l, acc => by rw [masks, masks_length]; simp; omega
def hoists (P : Program) : List (TypeId × List AV) → Heap → Option (Mems × Heap)
  | [], h => some ([], h)
  | (t, c) :: rest, h => match h.add (.cells t (P.cellsOf t) c true) with
    | some (i, h') => match hoists P rest h' with
      | some (l, h'') => some ((i, t, c) :: l, h'')
      | none => none
    | none => none
theorem ahoist_of {P : Program} : ∀ {rs : List (Option (Nat × TypeId × List AV))} {g : List (TypeId × List AV)} {mem : Mems} {h h0 : Heap}, rs.filterMap id = mem → hoists P g h = some (mem, h0) → ∃ gs, ahoist P gs h = some (rs, h0)
  | [], g, mem, h, h0, hm, hh => by
    subst hm
    cases g with
    | nil =>
      simp only [hoists, Option.some.injEq, Prod.mk.injEq] at hh
      exact ⟨[], by rw [ahoist, hh.2]⟩
    | cons x g =>
      simp only [hoists] at hh
      split at hh
      · split at hh
        · simp at hh
        · cases hh
      · cases hh
  | none :: rs, g, mem, h, h0, hm, hh => by
    obtain ⟨gs, e⟩ := ahoist_of (rs := rs) (by simpa using hm) hh
    exact ⟨none :: gs, by simp [ahoist, e]⟩
  | some x :: rs, g, mem, h, h0, hm, hh => by
    simp only [List.filterMap_cons, id] at hm
    subst hm
    cases g with
    | nil => simp [hoists] at hh
    | cons y g =>
      obtain ⟨t, c⟩ := y
      simp only [hoists] at hh
      split at hh
      · rename_i i h' ha
        split at hh
        · rename_i l h'' hr
          simp only [Option.some.injEq, Prod.mk.injEq, List.cons.injEq] at hh
          obtain ⟨⟨rfl, hl⟩, rfl⟩ := hh
          obtain ⟨gs, e⟩ := ahoist_of (rs := rs) hl.symm hr
          exact ⟨some (t, c) :: gs, by simp [ahoist, ha, e]⟩
        · cases hh
      · cases hh
theorem RS.drawM {P : Program} (hm : P.follows .mixedOrders = true) {N n id : Nat} {ops : Array Oper} {env : Env} {h h0 : Heap} {Post : APost} (g : List (TypeId × List AV)) {mem : Mems} (hord : ordered ops ops.toList (masks ops.toList []) [] = true) (hg : hoists P g h = some (mem, h0)) (k : RQ P n ops ops.toList mem env h0 Post) : RS P N n (.region id ops true) env h Post := by
  obtain ⟨rs, _, l2, recs, e, hs, t, rfl, h2, h3⟩ := k
  obtain ⟨gs, hgs⟩ := ahoist_of l2 hg
  refine RS.draw hm rfl hord hgs ⟨recs, e, [h0], t, ?_, h0, rfl, h3⟩
  exact okS_quiet (by rw [masks_length, t.len]; simp) h2
theorem RS.drawQ {P : Program} (hm : P.follows .mixedOrders = true) {N n id : Nat} {ops : Array Oper} {env : Env} {h : Heap} {Post : APost} (hord : ordered ops ops.toList (masks ops.toList []) [] = true) (k : RQ P n ops ops.toList [] env h Post) : RS P N n (.region id ops true) env h Post :=
  RS.drawM hm [] hord rfl k
end Go.Am
