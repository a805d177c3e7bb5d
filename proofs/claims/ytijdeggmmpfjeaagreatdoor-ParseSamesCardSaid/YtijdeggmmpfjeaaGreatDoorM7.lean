/- Part of the proof: ArCore, ArGc, ArTab, ArFn, ArOps, ArLift, ArSeq. -/
import Derived.Test.YtijdeggmmpfjeaaGreatDoorM6
set_option linter.unusedSimpArgs false
set_option linter.unusedVariables false
set_option linter.unusedSectionVars false
namespace Go.Am
open Go Go.RowKit
def CSem (P : Program) (f : FuncId) (args : List AV) (h : Heap) (v : AV) (h' : Heap) : Prop := ∀ B w0 M w, HRel P B w0 M h w → ∀ cargs, concs M args = some cargs →
  Calls P f cargs.toArray w fun e w' => ∃ M' c, Grow h h' M M' ∧ e = .returned c ∧ conc M' v = some c ∧ HRel P B w0 M' h' w'
theorem CSem.of {P : Program} {K : CallK} (hK : CallOk P K) {f : FuncId} {args : List AV} {h h' : Heap} {v : AV} (e : K f args h = some (v, h')) : CSem P f args h v h' := hK f args h v h' e
def OSem (P : Program) (o : Oper) (g : Ev) (h : Heap) (v : AV) (h' : Heap) : Prop := ∀ B w0 M w a, HRel P B w0 M h w → GRel M g a → ∀ (next : Act → World → Prop) (Q : Exit → Act → World → Prop),
  (∀ M' c w', Grow h h' M M' → conc M' v = some c → HRel P B w0 M' h' w' → next (a.put o.dst c) w') → o.wp P a w next Q
theorem OSem.val {P : Program} {ext : FuncId → Bool} (hext : ExtOk P ext) {o : Oper} {g : Ev} {h h' : Heap} {v : AV} (e : aop P ext o g h = some (.val v, h')) : OSem P o g h v h' := by
  intro B w0 M w a r re next Q hn
  exact aopK_sound (K := fun _ _ _ => none) hext (fun _ _ _ _ _ h => nomatch h) (by simp [aopK, e]) r re hn
theorem OSem.skip {P : Program} {ext : FuncId → Bool} (hext : ExtOk P ext) {o : Oper} {g : Ev} {h h' : Heap} (e : aop P ext o g h = some (.skip, h')) : OSem P o g h (.tuple []) h' := by
  intro B w0 M w a r re next Q hn
  exact aopK_sound (K := fun _ _ _ => none) hext (fun _ _ _ _ _ h => nomatch h) (by simp [aopK, e]) r re hn
theorem OSem.x {P : Program} {o : Oper} {g : Ev} {h h' : Heap} {v : AV} (e : aopX P o g h = some (v, h')) : OSem P o g h v h' := by
  intro B w0 M w a r re next Q hn
  obtain ⟨n', w', M', k1, k2, ⟨c, k3, rfl⟩, k4⟩ := aopX_sound e r re
  unfold Oper.wp
  rw [k1]
  exact hn M' c w' k2 k3 k4
theorem OSem.call {P : Program} {ext : FuncId → Bool} (hext : ExtOk P ext) {o : Oper} {g : Ev} {h h1 h' : Heap} {f : FuncId} {args : List AV} {v : AV} (e : aop P ext o g h = some (.enter f args, h1)) (hc : CSem P f args h1 v h') : OSem P o g h v h' := by
  intro B w0 M w a r re next Q hn
  unfold Oper.wp
  obtain ⟨n', w', M', k1, k2, ⟨c, k3, rfl⟩, k4⟩ := aop_sound hext e r re
  rw [k1]
  refine (hc B w0 M' w' k4 c k3).mono ?_
  rintro e w'' ⟨M'', cv, j1, rfl, j2, j3⟩
  exact hn M'' cv w'' (k2.trans j1) j2 j3
def RSem (P : Program) (n : Nat) (c : Code) (env : Env) (h : Heap) (Post : AExit → Env → Heap → Prop) : Prop := ∀ B w0 M a w, HRel P B w0 M h w → ERel M n env a → ∀ Q : Exit → Act → World → Prop,
  (∀ e env' h' M' a' w', Post e env' h' → Grow h h' M M' → HRel P B w0 M' h' w' → ERel M' n env' a' → Q e.conc a' w') → c.wp P Q a w
theorem RSem.mono {P : Program} {n : Nat} {c : Code} {env : Env} {h : Heap} {Post Post' : AExit → Env → Heap → Prop} (r : RSem P n c env h Post) (hp : ∀ e env' h', Post e env' h' → Post' e env' h') : RSem P n c env h Post' :=
  fun B w0 M a w k1 k2 Q hq => r B w0 M a w k1 k2 Q fun e env' h' M' a' w' p => hq e env' h' M' a' w' (hp _ _ _ p)
def LSem (P : Program) (n : Nat) (ops : Array Oper) (l : List Oper) (env : Env) (h : Heap) (env' : Env) (h' : Heap) : Prop := ∀ k, (∀ j : Nat, l[j]? = ops[k + j]?) → ∀ B w0 M a w, HRel P B w0 M h w → ERel M n env a → ∀ Q : Exit → Act → World → Prop,
  (∀ M' a' w', Grow h h' M M' → HRel P B w0 M' h' w' → ERel M' n env' a' → Q .normal a' w') → wpOps P ops Q (List.range' k l.length) a w
theorem LSem.nil {P : Program} {n : Nat} {ops : Array Oper} {env : Env} {h : Heap} : LSem P n ops [] env h env h :=
  fun _ _ _ _ M a w r re _ hq => hq M a w (Grow.refl _ M) r re
theorem LSem.step {P : Program} {n : Nat} {ops : Array Oper} {o : Oper} {l : List Oper} {env env1 env' : Env} {h h1 h' : Heap} {v : AV} (hw : awanted ops (aeval env) o = some true) (ho : OSem P o (aeval env) h v h1) (hp : aput env n o.dst v = some env1)
    (rest : LSem P n ops l env1 h1 env' h') : LSem P n ops (o :: l) env h env' h' := by
  intro k hl B w0 M a w r re Q hq
  have h0 : ops[k]? = some o := by simpa using (hl 0).symm
  have hl' : ∀ j : Nat, l[j]? = ops[k + 1 + j]? := fun j => by
    have := hl (j + 1)
    rw [show k + 1 + j = k + (j + 1) by omega]
    simpa using this
  have hg : ∀ d v, aeval env (.tmp d) = some v → ∃ c, conc M v = some c ∧ a.tmps[d]? = some c := fun d v e => re.get d v e
  rw [List.length_cons, List.range'_succ, wpOps_cons]
  unfold wpOp
  rw [h0]
  simp only
  rw [awanted_sound hg hw]
  simp only [if_true]
  refine .inl (ho B w0 M w a r re.ev _ _ fun M' c w' j1 j2 j3 => ?_)
  exact rest (k + 1) hl' B w0 M' _ w' j3 ((re.mono j1.le).put hp j2) Q fun M'' a' w'' i1 i2 i3 => hq M'' a' w'' (j1.trans i1) i2 i3
theorem LSem.skip {P : Program} {n : Nat} {ops : Array Oper} {o : Oper} {l : List Oper} {env env1 env' : Env} {h h' : Heap} (hw : awanted ops (aeval env) o = some false) (hp : aput env n o.dst (.tuple []) = some env1)
    (rest : LSem P n ops l env1 h env' h') : LSem P n ops (o :: l) env h env' h' := by
  intro k hl B w0 M a w r re Q hq
  have h0 : ops[k]? = some o := by simpa using (hl 0).symm
  have hl' : ∀ j : Nat, l[j]? = ops[k + 1 + j]? := fun j => by
    have := hl (j + 1)
    rw [show k + 1 + j = k + (j + 1) by omega]
    simpa using this
  have hg : ∀ d v, aeval env (.tmp d) = some v → ∃ c, conc M v = some c ∧ a.tmps[d]? = some c := fun d v e => re.get d v e
  rw [List.length_cons, List.range'_succ, wpOps_cons]
  unfold wpOp
  rw [h0]
  simp only
  rw [awanted_sound hg hw]
  simp only [Bool.false_eq_true, if_false]
  exact rest (k + 1) hl' B w0 M _ w r (re.put hp (conc_undef M)) Q hq
theorem LSem.run {P : Program} {ext : FuncId → Bool} (hext : ExtOk P ext) {K : CallK} (hK : CallOk P K) {n : Nat} {ops : Array Oper} {l : List Oper} {env env' : Env} {h h' : Heap} (e : aops P ext K ops n l env h = some (env', h')) : LSem P n ops l env h env' h' :=
  fun _ hl _ _ _ _ _ r re _ hq => aops_sound hext hK hl e r re hq
theorem RSem.region {P : Program} {n : Nat} {id : Nat} {ops : Array Oper} {env env' : Env} {h h' : Heap} {Post : AExit → Env → Heap → Prop} (l : LSem P n ops ops.toList env h env' h') (hp : Post .normal env' h') : RSem P n (.region id ops false) env h Post := by
  intro B w0 M a w r re Q hq
  refine wp_region ?_
  rw [List.range_eq_range']
  have := l 0 (by simp) B w0 M a w r re Q fun M' a' w' g1 g2 g3 => hq .normal env' h' M' a' w' hp g1 g2 g3
  simpa using this
theorem RSem.seq {P : Program} {n : Nat} {x y : Code} {env : Env} {h : Heap} {Post : AExit → Env → Heap → Prop}
    (r : RSem P n x env h fun e env1 h1 => (e = .normal ∧ ∀ B w0 M a w, HRel P B w0 M h1 w → ERel M n env1 a → RSem P n y env1 h1 Post) ∨ (e ≠ .normal ∧ Post e env1 h1)) : RSem P n (.seq x y) env h Post := by
  intro B w0 M a w k1 k2 Q hq
  refine wp_seq (r B w0 M a w k1 k2 _ ?_)
  intro e env1 h1 M1 a1 w1 hp g1 r1 re1
  rcases hp with ⟨rfl, hp⟩ | ⟨hne, hp⟩
  · exact hp B w0 M1 a1 w1 r1 re1 B w0 M1 a1 w1 r1 re1 Q fun e env2 h2 M2 a2 w2 p g2 r2 re2 => hq e env2 h2 M2 a2 w2 p (g1.trans g2) r2 re2
  · have := hq e env1 h1 M1 a1 w1 hp g1 r1 re1
    cases e with
    | normal => exact absurd rfl hne
    | exit id => exact this
    | ret => exact this
theorem RSem.cond {P : Program} {n : Nat} {c : Operand} {x y : Code} {env : Env} {h : Heap} {Post : AExit → Env → Heap → Prop} {b : Bool} (hc : aeval env c = some (.bool b)) (ht : b = true → RSem P n x env h Post) (hf : b = false → RSem P n y env h Post) : RSem P n (.cond c x y) env h Post := by
  intro B w0 M a w k1 k2 Q hq
  have := k2.ev _ _ hc
  simp only [conc, Option.some.injEq] at this
  cases b with
  | true => exact wp_cond_true this.symm (ht rfl B w0 M a w k1 k2 Q hq)
  | false => exact wp_cond_false this.symm (hf rfl B w0 M a w k1 k2 Q hq)
theorem RSem.skip {P : Program} {n : Nat} {env : Env} {h : Heap} {Post : AExit → Env → Heap → Prop} (hp : Post .normal env h) : RSem P n .skip env h Post :=
  fun _ _ M a w k1 k2 _ hq => wp_skip (hq .normal env h M a w hp (Grow.refl _ _) k1 k2)
theorem RSem.label {P : Program} {n : Nat} {i : Nat} {env : Env} {h : Heap} {Post : AExit → Env → Heap → Prop} (hp : Post .normal env h) : RSem P n (.label i) env h Post :=
  fun _ _ M a w k1 k2 _ hq => wp_label (hq .normal env h M a w hp (Grow.refl _ _) k1 k2)
theorem RSem.exit {P : Program} {n : Nat} {i : Nat} {env : Env} {h : Heap} {Post : AExit → Env → Heap → Prop} (hp : Post (.exit i) env h) : RSem P n (.exit i) env h Post :=
  fun _ _ M a w k1 k2 _ hq => wp_exit (hq (.exit i) env h M a w hp (Grow.refl _ _) k1 k2)
theorem RSem.ret {P : Program} {n : Nat} {env : Env} {h : Heap} {Post : AExit → Env → Heap → Prop} (hp : Post .ret env h) : RSem P n .ret env h Post :=
  fun _ _ M a w k1 k2 _ hq => wp_ret (hq .ret env h M a w hp (Grow.refl _ _) k1 k2)
theorem RSem.block {P : Program} {n : Nat} {id : Nat} {c : Code} {env : Env} {h : Heap} {Post : AExit → Env → Heap → Prop}
    (r : RSem P n c env h fun e env' h' => match e with | .exit j => if j = id then Post .normal env' h' else Post (.exit j) env' h' | e => Post e env' h') : RSem P n (.block id c) env h Post := by
  intro B w0 M a w k1 k2 Q hq
  refine wp_block (r B w0 M a w k1 k2 _ ?_)
  intro e env1 h1 M1 a1 w1 hp g1 r1 re1
  cases e with
  | normal => exact hq .normal env1 h1 M1 a1 w1 hp g1 r1 re1
  | ret => exact hq .ret env1 h1 M1 a1 w1 hp g1 r1 re1
  | exit j =>
    show (if j = id then Q .normal a1 w1 else Q (.exit j) a1 w1)
    simp only at hp
    split at hp
    · rename_i e; rw [if_pos e]; exact hq .normal env1 h1 M1 a1 w1 hp g1 r1 re1
    · rename_i e; rw [if_neg e]; exact hq (.exit j) env1 h1 M1 a1 w1 hp g1 r1 re1
theorem RSem.loop {P : Program} {n : Nat} {b : Code} {Post : AExit → Env → Heap → Prop} (I : Nat → Env → Heap → Prop)
    (round : ∀ k env h, I k env h → RSem P n b env h fun e env' h' => (e = .normal ∧ ∃ k', k' < k ∧ I k' env' h') ∨ (e ≠ .normal ∧ Post e env' h')) {k : Nat} {env : Env} {h : Heap} (hi : I k env h) : RSem P n (.loop b) env h Post := by
  intro B w0 M a w k1 k2 Q hq
  refine wp_loop_ghost (fun k a w => ∃ M1 env1 h1, I k env1 h1 ∧ HRel P B w0 M1 h1 w ∧ ERel M1 n env1 a ∧ Grow h h1 M M1) k ⟨M, env, h, hi, k1, k2, Grow.refl _ _⟩ ?_
  rintro k a1 w1 ⟨M1, env1, h1, i1, r1, re1, g1⟩
  refine round k env1 h1 i1 B w0 M1 a1 w1 r1 re1 _ ?_
  intro e env2 h2 M2 a2 w2 hp g2 r2 re2
  rcases hp with ⟨rfl, k', hk, hp⟩ | ⟨hne, hp⟩
  · exact ⟨k', hk, M2, env2, h2, hp, r2, re2, g1.trans g2⟩
  · have := hq e env2 h2 M2 a2 w2 hp (g1.trans g2) r2 re2
    cases e with
    | normal => exact absurd rfl hne
    | exit id => exact this
    | ret => exact this
theorem RSem.forget {P : Program} {n : Nat} {c : Code} {env env0 : Env} {h : Heap} {Post : AExit → Env → Heap → Prop} (he : ∀ t v, env0.get t = some v → env.get t = some v) (r : RSem P n c env0 h Post) : RSem P n c env h Post :=
  fun B w0 M a w k1 k2 Q hq => r B w0 M a w k1 ⟨k2.defers, k2.size, fun t v e => k2.get t v (he t v e)⟩ Q hq
end Go.Am
namespace Go.Am
open Go Go.RowKit
mutual
def under (n : Nat) : AV → Bool
  | .ptr i _ => Nat.blt i n
  | .slice i _ _ _ => Nat.blt i n
  | .map i => Nat.blt i n
  | .func _ f c => unders n f && unders n c
  | .iface _ v => under n v
  | .agg l => unders n l
  | .tuple l => unders n l
  | _ => true
def unders (n : Nat) : List AV → Bool
  | [] => true
  | v :: vs => under n v && unders n vs
end
def Map.upto (M : Map) (n : Nat) : Map := fun i => bif Nat.blt i n then M i else none
theorem Map.upto_lt {M : Map} {n i : Nat} (h : i < n) : M.upto n i = M i := by
  have : Nat.blt i n = true := by rw [blt_iff]; simp [h]
  simp [Map.upto, this]
theorem Map.upto_ge {M : Map} {n i : Nat} (h : n ≤ i) : M.upto n i = none := by
  have : Nat.blt i n = false := by rw [blt_iff]; simp; omega
  simp [Map.upto, this]
theorem Map.upto_some {M : Map} {n i : Nat} {p : Loc} (h : M.upto n i = some p) : i < n ∧ M i = some p := by
  by_cases hi : i < n
  · rw [Map.upto_lt hi] at h; exact ⟨hi, h⟩
  · rw [Map.upto_ge (by omega)] at h; cases h
mutual
theorem under_conc {M : Map} {n : Nat} : ∀ {v : AV}, under n v = true → conc (M.upto n) v = conc M v
  | .bool _, _ => rfl
  | .int _ _, _ => rfl
  | .str _, _ => rfl
  | .nilptr, _ => rfl
  | .nilslice, _ => rfl
  | .nilmap, _ => rfl
  | .nilfunc, _ => rfl
  | .niliface, _ => rfl
  | .ptr i _, h => by
    simp only [under, blt_iff, decide_eq_true_eq] at h
    simp only [conc, Map.upto_lt h]
  | .slice i _ _ _, h => by
    simp only [under, blt_iff, decide_eq_true_eq] at h
    simp only [conc, Map.upto_lt h]
  | .map i, h => by
    simp only [under, blt_iff, decide_eq_true_eq] at h
    simp only [conc, Map.upto_lt h]
  | .func _ f c, h => by
    simp only [under, Bool.and_eq_true] at h
    simp only [conc, unders_conc h.1, unders_conc h.2]
  | .iface _ v, h => by
    simp only [under] at h
    simp only [conc, under_conc h]
  | .agg l, h => by
    simp only [under] at h
    simp only [conc, unders_conc h]
  | .tuple l, h => by
    simp only [under] at h
    simp only [conc, unders_conc h]
theorem unders_conc {M : Map} {n : Nat} : ∀ {l : List AV}, unders n l = true → concs (M.upto n) l = concs M l
  | [], _ => rfl
  | v :: l, h => by
    simp only [unders, Bool.and_eq_true] at h
    simp only [concs, under_conc h.1, unders_conc h.2]
end
def undO (n : Nat) : Option AObj → Bool
  | some (.cells _ _ c _) => unders n c
  | some (.ro _ _ c) => unders n c
  | some (.map es) => unders n (es.map Prod.fst) && unders n (es.map Prod.snd)
  | some (.umap es) => unders n (es.map Prod.fst) && unders n (es.map Prod.snd)
  | _ => true
theorem unders_mem {n : Nat} : ∀ {l : List AV}, unders n l = true → ∀ v ∈ l, under n v = true
  | [], _, v, h => by simp at h
  | x :: l, h, v, hv => by
    simp only [unders, Bool.and_eq_true] at h
    rcases List.mem_cons.1 hv with rfl | hv
    · exact h.1
    · exact unders_mem h.2 v hv
theorem concE_upto {M : Map} {n : Nat} : ∀ {es : List (AV × AV)} {l : List MapEntry}, (∀ e ∈ es, under n e.1 = true ∧ under n e.2 = true) → concE M es l → concE (M.upto n) es l
  | [], _, _, h => h
  | (k, v) :: es, l, hu, ⟨e, rest, h0, h1, h2, h3⟩ => by
    have h := hu (k, v) (List.mem_cons_self ..)
    exact ⟨e, rest, h0, by rw [under_conc h.1]; exact h1, by rw [under_conc h.2]; exact h2, concE_upto (fun e he => hu e (List.mem_cons_of_mem _ he)) h3⟩
theorem ORel.upto {P : Program} {M : Map} {n : Nat} {p : Loc} {o : Option AObj} {co : Option Obj} (hu : undO n o = true) (r : ORel P M p o co) : ORel P (M.upto n) p o co := by
  cases o with
  | none => exact True.intro
  | some o =>
    cases o with
    | cells e es c ex =>
      obtain ⟨h0, h1, h2, h3, h4, arr, h5, h6, h7, h8, h9⟩ := r
      refine ⟨h0, h1, h2, h3, h4, arr, h5, h6, h7, h8, fun j a ha => ?_⟩
      obtain ⟨x, hx, hj⟩ := h9 j a ha
      exact ⟨x, by rw [under_conc (unders_mem hu a (List.mem_of_getElem? ha))]; exact hx, hj⟩
    | ro e es c =>
      intro j a ha
      obtain ⟨x, hx, hj⟩ := r j a ha
      exact ⟨x, by rw [under_conc (unders_mem hu a (List.mem_of_getElem? ha))]; exact hx, hj⟩
    | map es =>
      obtain ⟨ents, clock, h1, h2, h3⟩ := r
      simp only [undO, Bool.and_eq_true] at hu
      exact ⟨ents, clock, h1, concE_upto (fun e he => ⟨unders_mem hu.1 _ (List.mem_map.2 ⟨e, he, rfl⟩), unders_mem hu.2 _ (List.mem_map.2 ⟨e, he, rfl⟩)⟩) h2, h3⟩
    | umap es =>
      obtain ⟨es', ents, clock, h1, h2, h3, h4⟩ := r
      simp only [undO, Bool.and_eq_true] at hu
      exact ⟨es', ents, clock, h1, h2, h3, concE_upto (fun e he => by
        have he' := h2.mem_iff.1 he
        exact ⟨unders_mem hu.1 _ (List.mem_map.2 ⟨e, he', rfl⟩), unders_mem hu.2 _ (List.mem_map.2 ⟨e, he', rfl⟩)⟩) h4⟩
    | iter s pos => exact r
structure Gc (h hf : Heap) : Prop where
  next : hf.next ≤ h.next
  same : ∀ i, i < hf.next → hf.objs.get i = h.objs.get i ∨ hf.objs.get i = none
  und : ∀ i, i < hf.next → undO hf.next (hf.objs.get i) = true
theorem HRel.gc {P : Program} {B : Nat} {w0 : World} {M : Map} {h hf : Heap} {w : World} (r : HRel P B w0 M h w) (g : Gc h hf) : HRel P B w0 (M.upto hf.next) hf w := by
  refine ⟨r.below, r.base, fun i hi => Map.upto_ge hi, fun i p hp => ?_, fun i j p q hp hq hpq li lj => ?_⟩
  · obtain ⟨hi, hp⟩ := Map.upto_some hp
    obtain ⟨h1, h2, h3⟩ := r.obj i p hp
    have hu := g.und i hi
    rcases g.same i hi with e | e
    · rw [e] at hu ⊢
      exact ⟨h1, h2, h3.upto hu⟩
    · rw [e]
      exact ⟨fun _ h => (by cases h), h2, True.intro⟩
  · obtain ⟨hi, hp⟩ := Map.upto_some hp
    obtain ⟨hj, hq⟩ := Map.upto_some hq
    refine r.inj i j p q hp hq hpq ?_ ?_
    · obtain ⟨o, ho, hr⟩ := li
      rcases g.same i hi with e | e
      · rw [e] at ho; exact ⟨o, ho, hr⟩
      · rw [e] at ho; cases ho
    · rcases g.same j hj with e | e
      · rw [e] at lj; exact lj
      · rw [e] at lj; cases lj
theorem Grow.gc {h h' hf : Heap} {M M' : Map} (g : Grow h h' M M') (c : Gc h' hf) (hn : h.next ≤ hf.next) (hM : ∀ i, h.next ≤ i → M i = none) : Grow h hf M (M'.upto hf.next) := by
  refine ⟨fun i p hi => ?_, fun i hi => ?_, hn⟩
  · have : i < h.next := by
      rcases Nat.lt_or_ge i h.next with h1 | h1
      · exact h1
      · rw [hM i h1] at hi; cases hi
    rw [Map.upto_lt (by omega)]
    exact g.le i p hi
  · rw [Map.upto_lt (by omega)]
    exact g.keep i hi
theorem RSem.gc {P : Program} {n : Nat} {c : Code} {env : Env} {h : Heap} {Post : AExit → Env → Heap → Prop}
    (r : RSem P n c env h fun e env' h' => ∃ env0 hf, Gc h' hf ∧ h.next ≤ hf.next ∧ (∀ t v, env0.get t = some v → env'.get t = some v ∧ under hf.next v = true) ∧ Post e env0 hf) : RSem P n c env h Post := by
  intro B w0 M a w k1 k2 Q hq
  refine r B w0 M a w k1 k2 Q fun e env' h' M' a' w' hp g r' re => ?_
  obtain ⟨env0, hf, hg, hn, he, hp⟩ := hp
  exact hq e env0 hf (M'.upto hf.next) a' w' hp (g.gc hg hn k1.fresh) (r'.gc hg) ⟨re.defers, re.size, fun t v hv => by
    obtain ⟨h1, h2⟩ := he t v hv
    obtain ⟨x, h3, h4⟩ := re.get t v h1
    exact ⟨x, by rw [under_conc h2]; exact h3, h4⟩⟩
def AExit.ends : AExit → Bool
  | .exit _ => false
  | _ => true
theorem CSem.fn {P : Program} {f : FuncId} {fi : FInfo} (hfi : finfo P f = some fi) {args : List AV} (hle : args.length ≤ fi.ntmps) {env : Env} (henter : aenter args 0 .leaf = some env) {h hf : Heap} {v : AV}
    (r : RSem P fi.ntmps fi.code env h fun e env' h' => e.ends = true ∧ ∃ vs, aresults P env' h' fi.results = some vs ∧ afinish vs = v ∧ Gc h' hf ∧ h.next ≤ hf.next ∧ under hf.next v = true) : CSem P f args h v hf := by
  intro B w0 M w hr cargs hc
  obtain ⟨fn, hfn, c, hb, hcode, hnt, hres⟩ : ∃ fn, P.funcs[f]? = some fn ∧ ∃ c, fn.body = some c ∧ fi.code = c ∧ fi.ntmps = fn.ntmps ∧ fi.results = fn.results.toList := by
    unfold finfo at hfi
    split at hfi
    · rename_i fn hf
      split at hfi
      · rename_i c hb
        rw [cond_none] at hfi
        obtain ⟨_, hfi⟩ := hfi
        simp only [Option.some.injEq] at hfi
        subst hfi
        exact ⟨fn, hf, c, hb, rfl, rfl, rfl⟩
      · cases hfi
    · cases hfi
  have hlen := concs_length hc
  refine calls_of_wp hfn hb ?_
  have re : ERel M fi.ntmps env { tmps := cargs.toArray ++ Array.replicate (fn.ntmps - cargs.toArray.size) undef, defers := [] } := by
    refine ⟨rfl, by simp; omega, fun t v hv => ?_⟩
    rw [aenter_get henter] at hv
    split at hv
    · rename_i ht
      obtain ⟨x, k1, k2⟩ := concs_get hc hv
      refine ⟨x, k2, ?_⟩
      simp only [Nat.sub_zero] at k1
      have hlt : t < cargs.length := (List.getElem?_eq_some_iff.1 k1).1
      rw [Array.getElem?_append_left (by simpa using hlt)]
      simpa using k1
    · simp [T.get] at hv
  rw [← hcode]
  refine r B w0 M _ w hr re _ ?_
  intro e env' h' M' a' w' hp g r' re'
  obtain ⟨he, vs, hvs, hv, hg, hn, hu⟩ := hp
  rw [hres] at hvs
  obtain ⟨u, k1, k2⟩ := afinish_sound r' re' hvs
  subst hv
  have fin : a'.defers = [] ∧ ∃ u, (results fn a'.tmps).run P w' = .ok u w' ∧ (∃ M' c, Grow h hf M M' ∧ Ending.returned u = .returned c ∧ conc M' (afinish vs) = some c ∧ HRel P B w0 M' hf w') :=
    ⟨re'.defers, u, k2, M'.upto hf.next, u, g.gc hg hn hr.fresh, rfl, by rw [under_conc hu]; exact k1, r'.gc hg⟩
  cases e with
  | normal => exact fin
  | ret => exact fin
  | exit id => cases he
end Go.Am
namespace Go.Am
open Go Go.RowKit
theorem CSem.frame {P : Program} {f : FuncId} {args : List AV} {v : AV} {h1 : Heap} (hc : CSem P f args ⟨.leaf, 0⟩ v h1) (ha : plains args = true) (hv : plain1 v = true) (h : Heap) : CSem P f args h v h := by
  intro B w0 M w r cargs hca
  have hc0 : concs (fun _ => none) args = some cargs := by rw [plains_concs (M' := M) ha]; exact hca
  refine (hc w.heap.size w (fun _ => none) w (HRel.none w r.known) cargs hc0).mono ?_
  rintro e w' ⟨M1, c, g1, rfl, hcv, r1⟩
  exact ⟨M, c, Grow.refl _ M, rfl, by rw [plain1_conc hv M M1]; exact hcv, r.after r1.below⟩
def isV (o : Option (AV × Heap)) (v : AV) : Bool :=
  match o with
  | some (u, _) => plain1 u && veq1 u v
  | none => false
def tabOk (K : CallK) (f : FuncId) : List AV → Nat → Bool
  | [], _ => true
  | v :: vs, k => isV (K f [.int .u8 (.ofNat k)] ⟨.leaf, 0⟩) v && tabOk K f vs (k + 1)
theorem tabOk_get {K : CallK} {f : FuncId} : ∀ {l : List AV} {k : Nat}, tabOk K f l k = true → ∀ (j : Nat) (v : AV), l[j]? = some v → isV (K f [.int .u8 (.ofNat (k + j))] ⟨.leaf, 0⟩) v = true
  | [], _, _, j, v, hj => by simp at hj
  | x :: l, k, h, j, v, hj => by
    simp only [tabOk, Bool.and_eq_true] at h
    cases j with
    | zero => simp only [List.getElem?_cons_zero, Option.some.injEq] at hj; subst hj; exact h.1
    | succ j =>
      simp only [List.getElem?_cons_succ] at hj
      rw [show k + (j + 1) = k + 1 + j by omega]
      exact tabOk_get h.2 j v hj
theorem CSem.tab {P : Program} {K : CallK} (hK : CallOk P K) {f : FuncId} {tab : List AV} (ht : tabOk K f tab 0 = true) {k : Nat} {v : AV} (hv : tab[k]? = some v) (h : Heap) : CSem P f [.int .u8 (.ofNat k)] h v h := by
  have := tabOk_get ht k v hv
  rw [Nat.zero_add] at this
  unfold isV at this
  split at this
  · rename_i u h1 he
    simp only [Bool.and_eq_true] at this
    have hu := veq1_eq this.2
    subst hu
    exact (CSem.of hK he).frame (by rfl) this.1 h
  · cases this
end Go.Am
namespace Go.Am
open Go Go.RowKit
theorem finfo_of {P : Program} {f : FuncId} {fn : Func} {c : Code} (hf : P.funcs[f]? = some fn) (hb : fn.body = some c) (hn : (fn.name == "runtime.NumGoroutine") = false) : finfo P f = some ⟨c, fn.ntmps, fn.results.toList⟩ := by
  simp [finfo, hf, hb, hn]
def Done (P : Program) (rs : List ResultVar) (h : Heap) (v : AV) (hf : Heap) (e : AExit) (env' : Env) (h' : Heap) : Prop :=
  e.ends = true ∧ ∃ vs, aresults P env' h' rs = some vs ∧ afinish vs = v ∧ Gc h' hf ∧ h.next ≤ hf.next ∧ under hf.next v = true
theorem CSem.enter {P : Program} {f : FuncId} {fn : Func} {c : Code} {nt : Nat} {rs : List ResultVar} {args : List AV} {env : Env} {h hf : Heap} {v : AV} (hfn : P.funcs[f]? = some fn) (hb : fn.body = some c) (hn : (fn.name == "runtime.NumGoroutine") = false) (hnt : fn.ntmps = nt) (hrs : fn.results.toList = rs)
    (hle : Nat.ble args.length nt = true) (henter : aenter args 0 .leaf = some env) (r : RSem P nt c env h (Done P rs h v hf)) : CSem P f args h v hf := by
  subst hnt hrs
  exact CSem.fn (finfo_of hfn hb hn) (by simpa using hle) henter r
theorem Gc.refl {h : Heap} (hu : ∀ i, i < h.next → undO h.next (h.objs.get i) = true) : Gc h h := ⟨Nat.le_refl _, fun _ _ => .inl rfl, hu⟩
def Heap.Ok (h : Heap) : Prop := ∀ i, i < h.next → undO h.next (h.objs.get i) = true
theorem Done.same {P : Program} {rs : List ResultVar} {h : Heap} {v : AV} {e : AExit} {env' : Env} {vs : List AV} (ho : h.Ok) (he : e.ends = true) (hv : aresults P env' h rs = some vs) (hf : afinish vs = v) (hu : under h.next v = true) : Done P rs h v h e env' h :=
  ⟨he, vs, hv, hf, .refl ho, Nat.le_refl _, hu⟩
theorem RSem.then {P : Program} {n : Nat} {x y : Code} {env env1 : Env} {h h1 : Heap} {Post : AExit → Env → Heap → Prop} (r : RSem P n x env h fun e env' h' => e = .normal ∧ env' = env1 ∧ h' = h1) (k : RSem P n y env1 h1 Post) : RSem P n (.seq x y) env h Post := by
  refine RSem.seq (r.mono ?_)
  rintro e env' h' ⟨rfl, rfl, rfl⟩
  exact .inl ⟨rfl, fun _ _ _ _ _ _ _ => k⟩
theorem RSem.ops {P : Program} {n id : Nat} {ops : Array Oper} {y : Code} {env env1 : Env} {h h1 : Heap} {Post : AExit → Env → Heap → Prop} (l : LSem P n ops ops.toList env h env1 h1) (k : RSem P n y env1 h1 Post) : RSem P n (.seq (.region id ops false) y) env h Post :=
  RSem.then (RSem.region l ⟨rfl, rfl, rfl⟩) k
theorem LSem.stepB {P : Program} {n : Nat} {ops : Array Oper} {o : Oper} {l : List Oper} {env env1 env' : Env} {h h1 h' : Heap} {v : AV} {b : Bool} (hw : awanted ops (aeval env) o = some b) (hb : b = true) (ho : OSem P o (aeval env) h v h1) (hp : aput env n o.dst v = some env1)
    (rest : LSem P n ops l env1 h1 env' h') : LSem P n ops (o :: l) env h env' h' := LSem.step (by rw [hw, hb]) ho hp rest
theorem LSem.skipB {P : Program} {n : Nat} {ops : Array Oper} {o : Oper} {l : List Oper} {env env1 env' : Env} {h h' : Heap} {b : Bool} (hw : awanted ops (aeval env) o = some b) (hb : b = false) (hp : aput env n o.dst (.tuple []) = some env1)
    (rest : LSem P n ops l env1 h env' h') : LSem P n ops (o :: l) env h env' h' := LSem.skip (by rw [hw, hb]) hp rest
def LK (P : Program) (n : Nat) (ops : Array Oper) (l : List Oper) (env : Env) (h : Heap) (y : Code) (Post : AExit → Env → Heap → Prop) : Prop := ∃ env1 h1, LSem P n ops l env h env1 h1 ∧ RSem P n y env1 h1 Post
theorem LK.nil {P : Program} {n : Nat} {ops : Array Oper} {env : Env} {h : Heap} {y : Code} {Post : AExit → Env → Heap → Prop} (r : RSem P n y env h Post) : LK P n ops [] env h y Post := ⟨env, h, LSem.nil, r⟩
theorem LK.step {P : Program} {n : Nat} {ops : Array Oper} {o : Oper} {l : List Oper} {env env1 : Env} {h h1 : Heap} {v : AV} {b : Bool} {y : Code} {Post : AExit → Env → Heap → Prop} (hw : awanted ops (aeval env) o = some b) (hb : b = true) (ho : OSem P o (aeval env) h v h1) (hp : aput env n o.dst v = some env1)
    (rest : LK P n ops l env1 h1 y Post) : LK P n ops (o :: l) env h y Post :=
  let ⟨e, h', r1, r2⟩ := rest
  ⟨e, h', LSem.stepB hw hb ho hp r1, r2⟩
theorem LK.skip {P : Program} {n : Nat} {ops : Array Oper} {o : Oper} {l : List Oper} {env env1 : Env} {h : Heap} {b : Bool} {y : Code} {Post : AExit → Env → Heap → Prop} (hw : awanted ops (aeval env) o = some b) (hb : b = false) (hp : aput env n o.dst (.tuple []) = some env1)
    (rest : LK P n ops l env1 h y Post) : LK P n ops (o :: l) env h y Post :=
  let ⟨e, h', r1, r2⟩ := rest
  ⟨e, h', LSem.skipB hw hb hp r1, r2⟩
theorem RSem.go {P : Program} {n id : Nat} {ops : Array Oper} {y : Code} {env : Env} {h : Heap} {Post : AExit → Env → Heap → Prop} (k : LK P n ops ops.toList env h y Post) : RSem P n (.seq (.region id ops false) y) env h Post :=
  let ⟨_, _, r1, r2⟩ := k
  RSem.ops r1 r2
theorem OSem.pickT {P : Program} {ext : FuncId → Bool} (hext : ExtOk P ext) {d : Option Tmp} {c x y : Operand} {ty : TypeId} {pos : String} {af : Array Edge} {gd : Option (Nat × Bool)} {g : Ev} {h : Heap} {b : Bool} {v : AV} (hc : g c = some (.bool b)) (hb : b = true) (hv : g x = some v) :
    OSem P ⟨d, .pick c x y, ty, pos, af, gd⟩ g h v h := OSem.val hext (by subst hb; simp [aop, b1, hc, aval, hv])
theorem OSem.pickF {P : Program} {ext : FuncId → Bool} (hext : ExtOk P ext) {d : Option Tmp} {c x y : Operand} {ty : TypeId} {pos : String} {af : Array Edge} {gd : Option (Nat × Bool)} {g : Ev} {h : Heap} {b : Bool} {v : AV} (hc : g c = some (.bool b)) (hb : b = false) (hv : g y = some v) :
    OSem P ⟨d, .pick c x y, ty, pos, af, gd⟩ g h v h := OSem.val hext (by subst hb; simp [aop, b1, hc, aval, hv])
theorem inI_i64 {x : Int} (h0 : -9223372036854775808 ≤ x) (h1 : x < 9223372036854775808) : inI .i64 x = true := by
  cases x with
  | ofNat n =>
    simp only [inI, blt_iff, decide_eq_true_eq]
    have : (Int.ofNat n : Int) = (n : Int) := rfl
    omega
  | negSucc n =>
    simp only [inI, blt_iff, decide_eq_true_eq]
    omega
end Go.Am
namespace Go.Am
open Go Go.RowKit
variable {P : Program} {ext : FuncId → Bool} {d : Option Tmp} {ty : TypeId} {pos : String} {af : Array Edge} {gd : Option (Nat × Bool)} {g : Ev} {h : Heap}
theorem abin_add {t : TypeId} {x y : Operand} (a b : Int) : abin P .add t x y (.int .i64 a) (.int .i64 b) = bif inI .i64 (a + b) then some (.int .i64 (a + b)) else none := rfl
theorem abin_sub {t : TypeId} {x y : Operand} (a b : Int) : abin P .sub t x y (.int .i64 a) (.int .i64 b) = bif inI .i64 (a - b) then some (.int .i64 (a - b)) else none := rfl
theorem abin_str {op : BinOp} {t : TypeId} {x y : Operand} (a b : List UInt8) : abin P op t x y (.str a) (.str b) = aStr op a b := rfl
theorem OSem.add (hext : ExtOk P ext) {t t' : TypeId} {x y : Operand} {a b : Int} (hx : g x = some (.int .i64 a)) (hy : g y = some (.int .i64 b)) (hi : inI .i64 (a + b) = true) :
    OSem P ⟨d, .binOp .add t x y t', ty, pos, af, gd⟩ g h (.int .i64 (a + b)) h :=
  OSem.val hext (by simp [aop, b1, hx, hy, abin_add, abin_sub, hi, aval])
theorem OSem.sub (hext : ExtOk P ext) {t t' : TypeId} {x y : Operand} {a b : Int} (hx : g x = some (.int .i64 a)) (hy : g y = some (.int .i64 b)) (hi : inI .i64 (a - b) = true) :
    OSem P ⟨d, .binOp .sub t x y t', ty, pos, af, gd⟩ g h (.int .i64 (a - b)) h :=
  OSem.val hext (by simp [aop, b1, hx, hy, abin_add, abin_sub, hi, aval])
theorem OSem.cat (hext : ExtOk P ext) {t t' : TypeId} {x y : Operand} {v : AV} {a b : List UInt8} (hx : g x = some (.str a)) (hy : g y = some (.str b)) (hv : aStr .add a b = some v) :
    OSem P ⟨d, .binOp .add t x y t', ty, pos, af, gd⟩ g h v h :=
  OSem.val hext (by simp [aop, b1, hx, hy, abin_str, hv, aval])
theorem OSem.indexAddr (hext : ExtOk P ext) {t e : TypeId} {x y : Operand} {i k len es : Nat} {m : Nat} {kd : IntKind} {n : Int} (hx : g x = some (.slice i k len es)) (hy : g y = some (.int kd n)) (hu : P.underlying t = some (.slice e)) (hi : (P.info? e).isSome = true) (hes : Nat.beq (P.cellsOf e) es = true)
    (hn : n = .ofNat m) (hlt : m < len) : OSem P ⟨d, .indexAddr t x y, ty, pos, af, gd⟩ g h (.ptr i (k * es + m * es)) h := by
  subst hn
  have hb : Nat.blt m len = true := by rw [blt_iff]; simp [hlt]
  exact OSem.val hext (by simp [aop, b1, hx, hy, aindexAddr, natOf, hu, hi, hes, hb, aval])
theorem OSem.load1 (hext : ExtOk P ext) {t : TypeId} {x : Operand} {i off : Nat} {D : TypeDesc} {v : AV} (hx : g x = some (.ptr i off)) (hu : P.underlying t = some D) (hD : isAggB D = false) (hv : acells h i off 1 = some [v]) : OSem P ⟨d, .load t x, ty, pos, af, gd⟩ g h v h :=
  OSem.val hext (by simp [aop, b1, hx, aload, hu, hD, hv, aval])
theorem OSem.loadN (hext : ExtOk P ext) {t : TypeId} {x : Operand} {i off : Nat} {D : TypeDesc} {l : List AV} (hx : g x = some (.ptr i off)) (hu : P.underlying t = some D) (hD : isAggB D = true) (hv : acells h i off (P.cellsOf t) = some l) : OSem P ⟨d, .load t x, ty, pos, af, gd⟩ g h (.agg l) h :=
  OSem.val hext (by simp [aop, b1, hx, aload, hu, hD, hv, aval])
theorem takeN_of {α : Type} : ∀ {n : Nat} {l : List α}, n ≤ l.length → takeN n l = some (l.take n)
  | 0, l, _ => by cases l <;> rfl
  | n + 1, [], h => by simp at h
  | n + 1, x :: l, h => by
    have : n ≤ l.length := by simpa using h
    simp [takeN, takeN_of this]
theorem flat_drop {α : Type} {es : Nat} {row : α → List AV} (hrow : ∀ x, (row x).length = es) : ∀ (L : List α) (x : Nat), (L.flatMap row).drop (x * es) = (L.drop x).flatMap row
  | [], x => by simp
  | a :: L, 0 => by simp
  | a :: L, x + 1 => by
    have hl : (row a).length = es := hrow a
    rw [List.flatMap_cons, show (x + 1) * es = (row a).length + x * es by rw [Nat.add_mul, hl]; omega, ← List.drop_drop, List.drop_left, flat_drop hrow L x]
    simp
theorem flat_take {α : Type} {es : Nat} {row : α → List AV} (hrow : ∀ x, (row x).length = es) {L : List α} {x : Nat} {a : α} (hx : L[x]? = some a) {j n : Nat} (hj : j + n ≤ es) : takeN n ((L.flatMap row).drop (x * es + j)) = some (((row a).drop j).take n) := by
  have hlt := (List.getElem?_eq_some_iff.1 hx).1
  have ha : L.drop x = a :: L.drop (x + 1) := by
    rw [List.drop_eq_getElem_cons hlt, (List.getElem?_eq_some_iff.1 hx).2]
  rw [← List.drop_drop, flat_drop hrow, ha, List.flatMap_cons, List.drop_append_of_le_length (by rw [hrow]; omega)]
  rw [takeN_of (by simp [hrow]; omega), List.take_append_of_le_length (by simp [hrow]; omega)]
end Go.Am
namespace Go.Am
open Go Go.RowKit
def tells (o : Option AObj) (c : List AV) : Prop :=
  match o with
  | some (.cells _ _ c' _) => c' = c
  | some (.ro _ _ c') => c' = c
  | _ => False
def roHeap : List (TypeId × Nat × List AV) → Heap → Option Heap
  | [], h => some h
  | (e, es, c) :: l, h => match h.add (.ro e es c) with
    | some (_, h') => roHeap l h'
    | none => none
def Map.via (M : Map) (s : List Nat) : Map := fun j => (s[j]?).bind M
theorem via_ok {P : Program} {B : Nat} {w0 w : World} {M : Map} {h h0 : Heap} (r : HRel P B w0 M h w) {s : List Nat} (hn : h0.next = s.length)
    (ho : ∀ (j i : Nat), s[j]? = some i → ∃ e es c, h0.objs.get j = some (.ro e es c) ∧ plains c = true ∧ tells (h.objs.get i) c) : HRel P w.heap.size w (M.via s) h0 w := by
  refine ⟨Below.refl _ _, ⟨Nat.le_refl _, r.known⟩, fun i hi => ?_, fun j p hp => ?_, fun j k p q hp hq hpq lj lk => ?_⟩
  · simp only [Map.via]
    rw [List.getElem?_eq_none (by omega)]
    rfl
  · simp only [Map.via, Option.bind_eq_some_iff] at hp
    obtain ⟨i, hi, hp⟩ := hp
    obtain ⟨e, es, c, h1, h2, h3⟩ := ho j i hi
    obtain ⟨k1, k2, k3⟩ := r.obj i p hp
    refine ⟨fun o hh hr => ?_, k2, ?_⟩
    · rw [h1] at hh
      simp only [Option.some.injEq] at hh
      subst hh
      cases hr
    · rw [h1]
      unfold tells at h3
      split at h3
      · rename_i e' es' c' ex hg
        subst h3
        rw [hg] at k3
        obtain ⟨p0, p1, p2, p3, p4, arr, p5, p6, p7, p8, p9⟩ := k3
        intro x a ha
        obtain ⟨y, y1, y2⟩ := p9 x a ha
        exact ⟨y, by rw [plains_conc h2 x a ha (M' := M)]; exact y1, by rw [p5, p0, Nat.zero_add]; exact y2⟩
      · rename_i e' es' c' hg
        subst h3
        rw [hg] at k3
        intro x a ha
        obtain ⟨y, y1, y2⟩ := k3 x a ha
        exact ⟨y, by rw [plains_conc h2 x a ha (M' := M)]; exact y1, y2⟩
      · cases h3
  · simp only [Map.via, Option.bind_eq_some_iff] at hp
    obtain ⟨i, hi, hp⟩ := hp
    obtain ⟨e, es, c, h1, h2, h3⟩ := ho j i hi
    obtain ⟨o, ho', hr⟩ := lj
    rw [h1] at ho'
    simp only [Option.some.injEq] at ho'
    subst ho'
    cases hr
inductive Sub : T AV → T AV → Prop where
  | leaf {t : T AV} : Sub .leaf t
  | drop {v : Option AV} {l r l' r' : T AV} (h1 : Sub l l') (h2 : Sub r r') : Sub (.node none l r) (.node v l' r')
  | keep {v : Option AV} {l r l' r' : T AV} (h1 : Sub l l') (h2 : Sub r r') : Sub (.node v l r) (.node v l' r')
theorem Sub.get {t t' : T AV} (h : Sub t t') : ∀ (n : Nat) (v : AV), t.get n = some v → t'.get n = some v := by
  induction h with
  | leaf => intro n v e; simp [T.get] at e
  | drop h1 h2 ih1 ih2 =>
    intro n v e
    simp only [T.get] at e ⊢
    cases hn : Nat.beq n 0 with
    | true => simp [hn] at e
    | false =>
      simp only [hn, cond_false] at e ⊢
      cases ho : Nat.beq (n % 2) 1 with
      | true => simp only [ho, cond_true] at e ⊢; exact ih1 _ _ e
      | false => simp only [ho, cond_false] at e ⊢; exact ih2 _ _ e
  | keep h1 h2 ih1 ih2 =>
    intro n v e
    simp only [T.get] at e ⊢
    cases hn : Nat.beq n 0 with
    | true => simpa [hn] using e
    | false =>
      simp only [hn, cond_false] at e ⊢
      cases ho : Nat.beq (n % 2) 1 with
      | true => simp only [ho, cond_true] at e ⊢; exact ih1 _ _ e
      | false => simp only [ho, cond_false] at e ⊢; exact ih2 _ _ e
theorem RSem.sub {P : Program} {n : Nat} {c : Code} {env env0 : Env} {h : Heap} {Post : AExit → Env → Heap → Prop} (hs : Sub env0 env) (r : RSem P n c env0 h Post) : RSem P n c env h Post :=
  r.forget fun t v e => hs.get t v e
theorem RSem.count {P : Program} {n : Nat} {b : Code} {Post : AExit → Env → Heap → Prop} (st : Nat → Env) (h : Heap) (N : Nat)
    (round : ∀ x, x ≤ N → RSem P n b (st x) h fun e env' h' => (e = .normal ∧ x < N ∧ Sub (st (x + 1)) env' ∧ h' = h) ∨ (e ≠ .normal ∧ Post e env' h')) {x : Nat} (hx : x ≤ N) {env : Env} (he : Sub (st x) env) : RSem P n (.loop b) env h Post := by
  refine RSem.sub he ?_
  refine RSem.loop (fun k env h' => ∃ x, x ≤ N ∧ k = N - x ∧ Sub (st x) env ∧ h' = h) ?_ ⟨x, hx, rfl, ?_, rfl⟩
  · rintro k env h' ⟨x, hx, rfl, hs, rfl⟩
    refine RSem.sub hs ((round x hx).mono ?_)
    rintro e env' h' (⟨rfl, hlt, hs', rfl⟩ | h)
    · exact .inl ⟨rfl, N - (x + 1), by omega, x + 1, by omega, rfl, hs', rfl⟩
    · exact .inr h
  · have : ∀ t : T AV, Sub t t := fun t => by
      induction t with
      | leaf => exact .leaf
      | node v l r h1 h2 => exact .keep h1 h2
    exact this _
theorem CSem.lift {P : Program} {f : FuncId} {args0 args : List AV} {h0 h1 : Heap} {v : AV} (c : CSem P f args0 h0 v h1) (hv : plain1 v = true) {h : Heap} {s : List Nat} (hn : h0.next = s.length)
    (ho : ∀ (j i : Nat), s[j]? = some i → ∃ e es c, h0.objs.get j = some (.ro e es c) ∧ plains c = true ∧ tells (h.objs.get i) c) (ha : ∀ M : Map, concs (M.via s) args0 = concs M args) : CSem P f args h v h := by
  intro B w0 M w r cargs hc
  have r0 := via_ok r hn ho
  refine (c w.heap.size w (M.via s) w r0 cargs (by rw [ha]; exact hc)).mono ?_
  rintro e w' ⟨M1, c, g1, rfl, hcv, r1⟩
  exact ⟨M, c, Grow.refl _ M, rfl, by rw [plain1_conc hv M M1]; exact hcv, r.after r1.below⟩
end Go.Am
namespace Go.Am
open Go Go.RowKit
def Then (P : Program) (n : Nat) (y : Code) (Post : AExit → Env → Heap → Prop) : AExit → Env → Heap → Prop
  | .normal, env, h => RSem P n y env h Post
  | .exit i, env, h => Post (.exit i) env h
  | .ret, env, h => Post .ret env h
theorem RSem.seq2 {P : Program} {n : Nat} {x y : Code} {env : Env} {h : Heap} {Post : AExit → Env → Heap → Prop} (r : RSem P n x env h (Then P n y Post)) : RSem P n (.seq x y) env h Post := by
  refine RSem.seq (r.mono ?_)
  intro e env' h' hp
  cases e with
  | normal => exact .inl ⟨rfl, fun _ _ _ _ _ _ _ => hp⟩
  | exit i => exact .inr ⟨nofun, hp⟩
  | ret => exact .inr ⟨nofun, hp⟩
def InBlock (id : Nat) (Post : AExit → Env → Heap → Prop) : AExit → Env → Heap → Prop
  | .normal, env, h => Post .normal env h
  | .exit i, env, h => bif Nat.beq i id then Post .normal env h else Post (.exit i) env h
  | .ret, env, h => Post .ret env h
theorem RSem.block2 {P : Program} {n id : Nat} {c : Code} {env : Env} {h : Heap} {Post : AExit → Env → Heap → Prop} (r : RSem P n c env h (InBlock id Post)) : RSem P n (.block id c) env h Post := by
  refine RSem.block (r.mono ?_)
  intro e env' h' hp
  cases e with
  | normal => exact hp
  | ret => exact hp
  | exit j =>
    simp only [InBlock] at hp ⊢
    cases hj : Nat.beq j id with
    | true => simp only [hj, cond_true] at hp; rw [if_pos (Nat.eq_of_beq_eq_true hj)]; exact hp
    | false => simp only [hj, cond_false] at hp; rw [if_neg (Nat.ne_of_beq_eq_false hj)]; exact hp
def RL (P : Program) (n : Nat) (ops : Array Oper) (l : List Oper) (env : Env) (h : Heap) (Post : AExit → Env → Heap → Prop) : Prop := ∃ env1 h1, LSem P n ops l env h env1 h1 ∧ Post .normal env1 h1
theorem RL.nil {P : Program} {n : Nat} {ops : Array Oper} {env : Env} {h : Heap} {Post : AExit → Env → Heap → Prop} (r : Post .normal env h) : RL P n ops [] env h Post := ⟨env, h, LSem.nil, r⟩
theorem RL.step {P : Program} {n : Nat} {ops : Array Oper} {o : Oper} {l : List Oper} {env env1 : Env} {h h1 : Heap} {v : AV} {b : Bool} {Post : AExit → Env → Heap → Prop} (hw : awanted ops (aeval env) o = some b) (hb : b = true) (ho : OSem P o (aeval env) h v h1) (hp : aput env n o.dst v = some env1)
    (rest : RL P n ops l env1 h1 Post) : RL P n ops (o :: l) env h Post :=
  let ⟨e, h', r1, r2⟩ := rest
  ⟨e, h', LSem.stepB hw hb ho hp r1, r2⟩
theorem RL.skip {P : Program} {n : Nat} {ops : Array Oper} {o : Oper} {l : List Oper} {env env1 : Env} {h : Heap} {b : Bool} {Post : AExit → Env → Heap → Prop} (hw : awanted ops (aeval env) o = some b) (hb : b = false) (hp : aput env n o.dst (.tuple []) = some env1)
    (rest : RL P n ops l env1 h Post) : RL P n ops (o :: l) env h Post :=
  let ⟨e, h', r1, r2⟩ := rest
  ⟨e, h', LSem.skipB hw hb hp r1, r2⟩
theorem RSem.go2 {P : Program} {n id : Nat} {ops : Array Oper} {env : Env} {h : Heap} {Post : AExit → Env → Heap → Prop} (k : RL P n ops ops.toList env h Post) : RSem P n (.region id ops false) env h Post :=
  let ⟨_, _, r1, r2⟩ := k
  RSem.region r1 r2
theorem Then.go {P : Program} {n : Nat} {y : Code} {Post : AExit → Env → Heap → Prop} {env : Env} {h : Heap} (r : RSem P n y env h Post) : Then P n y Post .normal env h := r
theorem Then.ret {P : Program} {n : Nat} {y : Code} {Post : AExit → Env → Heap → Prop} {env : Env} {h : Heap} (r : Post .ret env h) : Then P n y Post .ret env h := r
theorem Then.exit {P : Program} {n i : Nat} {y : Code} {Post : AExit → Env → Heap → Prop} {env : Env} {h : Heap} (r : Post (.exit i) env h) : Then P n y Post (.exit i) env h := r
theorem RSem.condT {P : Program} {n : Nat} {c : Operand} {x y : Code} {env : Env} {h : Heap} {Post : AExit → Env → Heap → Prop} {b : Bool} (hc : aeval env c = some (.bool b)) (hb : b = true) (r : RSem P n x env h Post) : RSem P n (.cond c x y) env h Post :=
  RSem.cond hc (fun _ => r) (fun e => by rw [hb] at e; cases e)
theorem RSem.condF {P : Program} {n : Nat} {c : Operand} {x y : Code} {env : Env} {h : Heap} {Post : AExit → Env → Heap → Prop} {b : Bool} (hc : aeval env c = some (.bool b)) (hb : b = false) (r : RSem P n y env h Post) : RSem P n (.cond c x y) env h Post :=
  RSem.cond hc (fun e => by rw [hb] at e; cases e) (fun _ => r)
theorem Sub.refl : ∀ t : T AV, Sub t t
  | .leaf => .leaf
  | .node _ l r => .keep (Sub.refl l) (Sub.refl r)
def Round (st : Nat → Env) (h : Heap) (N : Nat) (I : Nat → Prop) (x : Nat) (Post : AExit → Env → Heap → Prop) : AExit → Env → Heap → Prop
  | .normal, env', h' => x < N ∧ I (x + 1) ∧ Sub (st (x + 1)) env' ∧ h' = h
  | .exit i, env', h' => Post (.exit i) env' h'
  | .ret, env', h' => Post .ret env' h'
theorem RSem.countI {P : Program} {n : Nat} {b : Code} {Post : AExit → Env → Heap → Prop} (st : Nat → Env) (h : Heap) (N : Nat) (I : Nat → Prop)
    (round : ∀ x, x ≤ N → I x → RSem P n b (st x) h (Round st h N I x Post)) {x : Nat} (hx : x ≤ N) (hi : I x) {env : Env} (he : Sub (st x) env) : RSem P n (.loop b) env h Post := by
  refine RSem.sub he ?_
  refine RSem.loop (fun k env h' => ∃ x, x ≤ N ∧ I x ∧ k = N - x ∧ Sub (st x) env ∧ h' = h) ?_ ⟨x, hx, hi, rfl, Sub.refl _, rfl⟩
  rintro k env h' ⟨x, hx, hi, rfl, hs, rfl⟩
  refine RSem.sub hs ((round x hx hi).mono ?_)
  intro e env' h' hp
  cases e with
  | normal =>
    obtain ⟨hlt, hi', hs', rfl⟩ := hp
    exact .inl ⟨rfl, N - (x + 1), by omega, x + 1, by omega, hi', rfl, hs', rfl⟩
  | exit i => exact .inr ⟨nofun, hp⟩
  | ret => exact .inr ⟨nofun, hp⟩
end Go.Am
