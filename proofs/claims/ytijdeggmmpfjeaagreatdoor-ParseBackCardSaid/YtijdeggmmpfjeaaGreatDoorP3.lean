/- Part of the proof: WpH, WpI, AsWm, PuKin. -/
import Derived.Test.YtijdeggmmpfjeaaGreatDoorP2
import Derived.Test.YtijdeggmmpfjeaaGreatDoorS3
set_option linter.unusedSimpArgs false
set_option linter.unusedVariables false
set_option linter.unusedSectionVars false
namespace Go.Am
open Go Go.Proofs Go.RowKit Go.Pu
theorem above_loop {B : Nat} {w0 w : World} {M : Map} {h : Heap} {a : Act} {n K m : Nat} {env : Env} (r : HRel Tryz.prog B w0 M h w) (re : ERel M n env a) (hK : h.next = K) (hm : 2 ≤ m)
    {ib is i0 node : Nat} {ns : List Nd} (hn : node < ns.length) (hl : Lam (sizes ns)) (hlen : ns.length ≤ 700) (hbox : IterH ns node ib is i0 h)
    {g : Operand} {p t : Tmp} (hg : aeval env g = some (.func (.func 162) [] [.ptr ib 0, .ptr is 0])) {id : Nat} {ty : TypeId} {pos : String} {body : Code} (hp' : p < n) (envx : Nat → Env)
    (he : ∀ x : Nat, x < node → ∃ e1, aput env n (some p) (.int .i64 (x : Int)) = some e1 ∧ aput e1 n (some t) (.int .i64 (x : Int)) = some (envx x))
    (hp : List Nat → Heap) (h00 : hp [] = h) (hflat : ∀ pre : List Nat, (∀ y ∈ pre, y < node) → ∀ i, flatO ((hp pre).objs.get i) = true) (hKn : ∀ pre, K ≤ (hp pre).next) (hbx : ∀ pre, IterH ns node ib is i0 (hp pre))
    (round : ∀ (pre : List Nat) (x : Nat), (∀ y ∈ pre, y < node) → pre.length < node → x < node → RSI Tryz.prog K n body (envx x) (hp pre) (fun e _ h' => e = .normal ∧ ∃ ids, Lay K ids h' (hp (pre ++ [x]))))
    {Q : Exit → Act → World → Prop} (hdone : ∀ (D : Nat) (M' : Map) (W : World), Keep K M M' → HRel Tryz.prog B w0 M' (hp (ancF (sizeAt ns) node node)) W → w.heap.size ≤ D → W.heap[D]? = some (.deferred (some [])) → Q .normal { a with defers := { target := .collected D, args := #[] } :: a.defers } W) :
    (Code.rangeFunc g #[p] (.region id #[⟨some t, .assign (.tmp p), ty, pos, #[], none⟩] false) body).wpIn Fence.wide m Tryz.prog Q a w := by
  subst hK
  have hev := aeval_sound re hg
  simp only [conc, concs] at hev
  cases h1 : M ib with
  | none => simp [h1] at hev
  | some pb =>
    cases h2 : M is with
    | none => simp [h1, h2] at hev
    | some ps =>
      simp only [h1, h2, Option.map_some, Option.some.injEq] at hev
      obtain ⟨x1, e1⟩ := hbox.b
      obtain ⟨x2, e2⟩ := hbox.s
      have b1 := (r.cell h1 e1 (j := 0) rfl).1
      have b2 := (r.cell h2 e2 (j := 0) rfl).1
      obtain ⟨_, v2, g2, _⟩ := r.cell h2 e2 (j := 0) rfl
      cases h3 : M i0 with
      | none => simp [conc, h3] at g2
      | some p0 =>
        have lt : ∀ {i : Nat} {q : Loc}, M i = some q → i < h.next := fun {i q} hi => by
          rcases Nat.lt_or_ge i h.next with h' | h'
          · exact h'
          · rw [r.fresh i h'] at hi; cases hi
        have hat : ∀ (pre : List Nat) (B' : Nat) (w0' : World) (M' : Map) (W : World), Keep h.next M M' → HRel Tryz.prog B' w0' M' (hp pre) W → IterAt ns node pb ps p0 W := fun pre B' w0' M' W k r' =>
          (hbx pre).at hn r' ((k ib (lt h1)).trans h1) ((k is (lt h2)).trans h2) ((k i0 (lt h3)).trans h3)
        have i0' := hat [] B w0 M w (Keep.refl _ _) (by rw [h00]; exact r)
        have ptr1 : (⟨pb.b, pb.base + 0, none⟩ : Addr) = ⟨pb.b, 0, none⟩ := by rw [b1]
        have ptr2 : (⟨ps.b, ps.base + 0, none⟩ : Addr) = ⟨ps.b, 0, none⟩ := by rw [b2]
        rw [ptr1, ptr2] at hev
        have hs : ∀ k, k < node → 0 ≤ sizeAt ns k ∧ sizeAt ns k ≤ 1000000 := fun k hk => by
          have hz : (sizes ns).length = ns.length := by simp [sizes]
          obtain ⟨x, hx⟩ : ∃ x, (sizes ns)[k]? = some x := ⟨(sizes ns)[k]'(by omega), by rw [List.getElem?_eq_getElem]⟩
          have := hl.rng k x hx
          unfold sizeAt
          rw [hx]
          simp only [Option.getD_some]
          omega
        have hseq := above_stops Fence.wide (m - 1) (fun _ => trivial) rfl (by omega) pb.b ps.b p0.b (p0.base + 0 * 5) ns.length (p0.cap - 0) node (sizeAt ns) hs hn (by omega) w (r.obj ib pb h1).2.1 (r.obj is ps h2).2.1 (r.obj i0 p0 h3).2.1 i0'.c1 i0'.c2 i0'.c3
        have hd : a.defers = [] := re.defers
        refine range_law (by omega) hev.symm (enters_of Tryz.func162 (by kernel_rfl) rfl) hseq (fun h k => h.trans k) (fun W l o o' h1 h2 => keepB_put W l o o' h1 h2) (fun _ => rfl)
          (fun pre W => ∃ M', Keep h.next M M' ∧ HRel Tryz.prog B w0 M' (hp (pre.map (·.1))) W) ?_ ⟨M, Keep.refl _ _, by simpa [h00] using r⟩
          (fun x => { tmps := (a.tmps.setIfInBounds p (.int .i64 (x.1 : Int))).setIfInBounds t (.int .i64 (x.1 : Int)), defers := [] }) ?_ ?_ ?_
        · rintro pre X Y row ⟨M', k, r'⟩ hg' hr
          refine ⟨M', k, r'.grown (hflat _ (fun y hy => ?_)) hg' (fun b e => ⟨Nat.le_trans r.below.size (hr b e).1, (hr b e).2⟩)⟩
          obtain ⟨z, _, rfl⟩ := List.mem_map.1 hy
          exact z.2
        · intro l x W k hk
          have hsz : p < a.tmps.size := by rw [re.size]; exact hp'
          refine wpIn_region ?_
          refine wpOps_in (noDefer_of (l := [⟨some t, .assign (.tmp p), ty, pos, #[], none⟩]) rfl) (by rintro ⟨_, _, h⟩; exact h) _ _ _ ?_
          have hget : (a.tmps.setIfInBounds p (.int .i64 (x.1 : Int)))[p]? = some (.int .i64 (x.1 : Int)) := by simp [hsz]
          have hz : ((#[p] : Array Tmp).zip #[(Value.int .i64 (x.1 : Int))]).foldl (fun t (p, v) => t.setIfInBounds p v) a.tmps = a.tmps.setIfInBounds p (.int .i64 (x.1 : Int)) := by rw [← Array.foldl_toList, Array.toList_zip]; rfl
          show wpOps Tryz.prog _ _ [0] _ W
          rw [wpOps_cons]
          simp only [wpOp, wpOps, List.getElem?_toArray, List.getElem?_cons_zero, Region.wanted, if_true]
          refine .inl ?_
          have hx : (execOp ({ tmps := ((#[p] : Array Tmp).zip #[(Value.int .i64 (x.1 : Int))]).foldl (fun t (p, v) => t.setIfInBounds p v) a.tmps, defers := [] } : Act).eval ⟨some t, .assign (.tmp p), ty, pos, #[], none⟩).run Tryz.prog W = .ok (.value (.int .i64 (x.1 : Int))) W := by
            rw [hz]
            simp [execOp, Act.eval, hget, go_sem]
          unfold Oper.wp
          rw [hx, Oper.upon_value]
          rw [← Array.foldl_toList, Array.toList_zip]
          exact hk
        · intro l pre x W ⟨M', k, r'⟩ hpl
          obtain ⟨ea, q1, q2⟩ := he x.1 x.2
          have le := Map.le_of_keep r k
          have reb : ERel M' n (envx x.1) { tmps := (a.tmps.setIfInBounds p (.int .i64 (x.1 : Int))).setIfInBounds t (.int .i64 (x.1 : Int)), defers := [] } := by
            have s0 := re.mono le
            have s1 := s0.put q1 (c := .int .i64 (x.1 : Int)) (by simp [conc])
            have s2 := s1.put q2 (c := .int .i64 (x.1 : Int)) (by simp [conc])
            have : (a.put (some p) (.int .i64 (x.1 : Int))).put (some t) (.int .i64 (x.1 : Int)) = { tmps := (a.tmps.setIfInBounds p (.int .i64 (x.1 : Int))).setIfInBounds t (.int .i64 (x.1 : Int)), defers := [] } := by
              obtain ⟨tm, de⟩ := a
              simp only at hd
              subst hd
              rfl
            rw [← this]; exact s2
          have hmem : ∀ y ∈ pre.map (·.1), y < node := fun y hy => by
            obtain ⟨z, _, rfl⟩ := List.mem_map.1 hy
            exact z.2
          refine round (pre.map (·.1)) x.1 hmem (by simpa using hpl) x.2 l _ B W M' _ W r'.restart (hKn _) reb _ (fun ⟨_, _, h⟩ => by cases h.1) ?_
          rintro e env' h' M'' a' w' ⟨rfl, ids, lay⟩ k2 n2 r2 _
          have r3 := r2.lay lay
          have k3 : Keep h.next M (M''.via ids) := (k.trans k2).trans (lay.keep M'')
          refine ⟨rfl, r2.belowM.marks, (hat _ _ _ _ _ k r').keep (hat _ _ _ _ _ k3 r3), M''.via ids, k3, ?_⟩
          have := r'.rebase r3
          simpa using this
        · rintro D xs W hD hS ⟨M', k, r'⟩ hW
          have hS' : xs.map (·.1) = ancF (sizeAt ns) node node := hS
          rw [hS'] at r'
          exact hdone D M' W k r' hD hW
end Go.Am
namespace Go.Am
open Go Go.Proofs Go.RowKit Go.Pu
def addD (ds : List Deferred) (a : Act) : Act := { a with defers := a.defers ++ ds }
def clr (a : Act) : Act := { a with defers := [] }
theorem put_addD (ds : List Deferred) (a : Act) (d : Option Tmp) (v : Value) : (addD ds a).put d v = addD ds (a.put d v) := by
  cases d <;> rfl
theorem wpOps_add {P : Program} {ops : Array Oper} (ds : List Deferred) {Q Q' : Exit → Act → World → Prop} (hQ : ¬ LetsOut Q) (hn : ∀ a w, Q .normal a w → Q' .normal (addD ds a) w) (hp : ∀ c a w, ¬ Q (.panic c) a w) :
    ∀ (is : List Nat) (a : Act) (w : World), wpOps P ops Q is a w → wpOps P ops Q' is (addD ds a) w
  | [], _, _, h => hn _ _ h
  | i :: is, a, w, h => by
    rw [wpOps_cons] at h ⊢
    unfold wpOp at h ⊢
    cases ho : ops[i]? with
    | none => rw [ho] at h; exact wpOps_add ds hQ hn hp is _ _ h
    | some o =>
      rw [ho] at h
      simp only at h ⊢
      have ey : yielded ops (addD ds a).tmps = yielded ops a.tmps := rfl
      rw [ey]
      split
      · rename_i hw
        rw [if_pos hw] at h
        rcases h with h | ⟨_, h⟩
        · refine .inl ?_
          have ee : (addD ds a).eval = a.eval := rfl
          unfold Oper.wp at h ⊢
          rw [ee]
          generalize (execOp a.eval o).run P w = r at *
          cases r with
          | ok x w' =>
            cases x with
            | value v => simp only [Oper.upon] at h ⊢; rw [put_addD]; exact wpOps_add ds hQ hn hp is _ _ h
            | skip => simp only [Oper.upon] at h ⊢; rw [put_addD]; exact wpOps_add ds hQ hn hp is _ _ h
            | defer d =>
              simp only [Oper.upon] at h ⊢
              have e : ({ tmps := (addD ds a).tmps, defers := d :: (addD ds a).defers } : Act).put o.dst undef = addD ds (({ tmps := a.tmps, defers := d :: a.defers } : Act).put o.dst undef) := by rw [← put_addD]; rfl
              rw [e]
              exact wpOps_add ds hQ hn hp is _ _ h
            | enter f args =>
              simp only [Oper.upon] at h ⊢
              refine h.mono ?_
              intro e w'' he
              cases e with
              | returned v => simp only at he ⊢; rw [put_addD]; exact wpOps_add ds hQ hn hp is _ _ he
              | panicked c => exact absurd he (hp _ _ _)
              | outgrown => exact absurd he hQ
            | row r' args =>
              simp only [Oper.upon] at h ⊢
              refine Rows.mono h fun v w'' he => ?_
              rw [put_addD]; exact wpOps_add ds hQ hn hp is _ _ he
            | _ => simp only [Oper.upon] at h
          | halt x w' => cases x <;> simp only [Oper.upon] at h ⊢ <;> first | exact absurd h (hp _ _ _) | exact h.elim
        · exact absurd h hQ
      · rename_i hw
        rw [if_neg hw] at h
        rw [put_addD]
        exact wpOps_add ds hQ hn hp is _ _ h
def Held (w0 : World) (ds : List Deferred) (w : World) : Prop := ds = [] ∨ ∃ D, ds = [{ target := .collected D, args := #[] }] ∧ w0.heap.size ≤ D ∧ w.heap[D]? = some (.deferred (some []))
theorem Held.step {w0 w w' : World} {ds : List Deferred} (h : Held w0 ds w) (hm : ∀ (k : Nat) (o : Obj), w.heap[k]? = some o → isMark o = true → w'.heap[k]? = some o) : Held w0 ds w' := by
  rcases h with h | ⟨D, h1, h2, h3⟩
  · exact .inl h
  · exact .inr ⟨D, h1, h2, hm _ _ h3 rfl⟩
def RMd (P : Program) (N n : Nat) (c : Code) (env : Env) (h : Heap) (Post : APost) : Prop := ∀ B w0 M a w, HRel P B w0 M h w → N ≤ h.next → ERel M n env (clr a) → Held w0 a.defers w → ∀ Q : Exit → Act → World → Prop,
  (∀ e env' h' M' a' w', Post e env' h' → Keep N M M' → N ≤ h'.next → HRel P B w0 M' h' w' → ERel M' n env' (clr a') → Held w0 a'.defers w' → Q e.conc a' w') → c.wp P Q a w
def RM (P : Program) (N n : Nat) (c : Code) (env : Env) (h : Heap) (Post : APost) : Prop := ∀ B w0 M a w, HRel P B w0 M h w → N ≤ h.next → ERel M n env a → ∀ Q : Exit → Act → World → Prop,
  (∀ e env' h' M' a' w', Post e env' h' → Keep N M M' → N ≤ h'.next → HRel P B w0 M' h' w' → ERel M' n env' (clr a') → Held w0 a'.defers w' → Q e.conc a' w') → c.wp P Q a w
def ThenMd (P : Program) (N n : Nat) (y : Code) (Post : APost) : APost
  | .normal, env, h => RMd P N n y env h Post
  | .exit i, env, h => Post (.exit i) env h
  | .ret, env, h => Post .ret env h
def ThenM (P : Program) (N n : Nat) (y : Code) (Post : APost) : APost
  | .normal, env, h => RM P N n y env h Post
  | .exit i, env, h => Post (.exit i) env h
  | .ret, env, h => Post .ret env h
theorem ThenMd.n {P : Program} {N n : Nat} {y : Code} {env : Env} {h : Heap} {Post : APost} (r : RMd P N n y env h Post) : ThenMd P N n y Post .normal env h := r
theorem ThenMd.r {P : Program} {N n : Nat} {y : Code} {env : Env} {h : Heap} {Post : APost} (r : Post .ret env h) : ThenMd P N n y Post .ret env h := r
theorem ThenM.n {P : Program} {N n : Nat} {y : Code} {env : Env} {h : Heap} {Post : APost} (r : RM P N n y env h Post) : ThenM P N n y Post .normal env h := r
theorem ThenM.r {P : Program} {N n : Nat} {y : Code} {env : Env} {h : Heap} {Post : APost} (r : Post .ret env h) : ThenM P N n y Post .ret env h := r
section
variable {P : Program} {N n : Nat} {x y : Code} {env : Env} {h : Heap} {Post : APost}
theorem clr_of {M : Map} {a : Act} (r : ERel M n env a) : clr a = a := by
  obtain ⟨t, d⟩ := a
  have : d = [] := r.defers
  subst this
  rfl
theorem RMd.seq (r : RMd P N n x env h (ThenMd P N n y Post)) : RMd P N n (.seq x y) env h Post := by
  intro B w0 M a w k1 kN k2 k3 Q hq
  refine wp_seq (r B w0 M a w k1 kN k2 k3 _ ?_)
  intro e env1 h1 M1 a1 w1 hp g1 n1 r1 re1 d1
  cases e with
  | normal => exact hp B w0 M1 a1 w1 r1 n1 re1 d1 Q fun e env2 h2 M2 a2 w2 p g2 n2 r2 re2 d2 => hq e env2 h2 M2 a2 w2 p (g1.trans g2) n2 r2 re2 d2
  | exit i => exact hq (.exit i) env1 h1 M1 a1 w1 hp g1 n1 r1 re1 d1
  | ret => exact hq .ret env1 h1 M1 a1 w1 hp g1 n1 r1 re1 d1
theorem RM.seq (r : RM P N n x env h (ThenMd P N n y Post)) : RM P N n (.seq x y) env h Post := by
  intro B w0 M a w k1 kN k2 Q hq
  refine wp_seq (r B w0 M a w k1 kN k2 _ ?_)
  intro e env1 h1 M1 a1 w1 hp g1 n1 r1 re1 d1
  cases e with
  | normal => exact hp B w0 M1 a1 w1 r1 n1 re1 d1 Q fun e env2 h2 M2 a2 w2 p g2 n2 r2 re2 d2 => hq e env2 h2 M2 a2 w2 p (g1.trans g2) n2 r2 re2 d2
  | exit i => exact hq (.exit i) env1 h1 M1 a1 w1 hp g1 n1 r1 re1 d1
  | ret => exact hq .ret env1 h1 M1 a1 w1 hp g1 n1 r1 re1 d1
theorem RM.seqS (r : RS P N n x env h (ThenM P N n y Post)) : RM P N n (.seq x y) env h Post := by
  intro B w0 M a w k1 kN k2 Q hq
  refine wp_seq (r B w0 M a w k1 kN k2 _ ?_)
  intro e env1 h1 M1 a1 w1 hp g1 n1 r1 re1
  cases e with
  | normal => exact hp B w0 M1 a1 w1 r1 n1 re1 Q fun e env2 h2 M2 a2 w2 p g2 n2 r2 re2 d2 => hq e env2 h2 M2 a2 w2 p (g1.trans g2) n2 r2 re2 d2
  | exit i => exact hq (.exit i) env1 h1 M1 a1 w1 hp g1 n1 r1 (by rw [clr_of re1]; exact re1) (.inl re1.defers)
  | ret => exact hq .ret env1 h1 M1 a1 w1 hp g1 n1 r1 (by rw [clr_of re1]; exact re1) (.inl re1.defers)
theorem RM.block {id : Nat} (r : RM P N n x env h (InB id Post)) : RM P N n (.block id x) env h Post := by
  intro B w0 M a w k1 kN k2 Q hq
  refine wp_block (r B w0 M a w k1 kN k2 _ ?_)
  intro e env1 h1 M1 a1 w1 hp g1 n1 r1 re1 d1
  cases e with
  | normal => exact hq .normal env1 h1 M1 a1 w1 hp g1 n1 r1 re1 d1
  | ret => exact hq .ret env1 h1 M1 a1 w1 hp g1 n1 r1 re1 d1
  | exit j =>
    show (if j = id then Q .normal a1 w1 else Q (.exit j) a1 w1)
    simp only [InB] at hp
    cases hj : Nat.beq j id with
    | true =>
      simp only [hj, cond_true] at hp
      rw [if_pos (Nat.eq_of_beq_eq_true hj)]
      exact hq .normal env1 h1 M1 a1 w1 hp g1 n1 r1 re1 d1
    | false =>
      simp only [hj, cond_false] at hp
      rw [if_neg (Nat.ne_of_beq_eq_false hj)]
      exact hq (.exit j) env1 h1 M1 a1 w1 hp g1 n1 r1 re1 d1
theorem RMd.condT {c : Operand} (hc : aeval env c = some (.bool true)) (r : RMd P N n x env h Post) : RMd P N n (.cond c x y) env h Post := by
  intro B w0 M a w k1 kN k2 k3 Q hq
  have := k2.ev _ _ hc
  simp only [conc, Option.some.injEq] at this
  exact wp_cond_true this.symm (r B w0 M a w k1 kN k2 k3 Q hq)
theorem RMd.condF {c : Operand} (hc : aeval env c = some (.bool false)) (r : RMd P N n y env h Post) : RMd P N n (.cond c x y) env h Post := by
  intro B w0 M a w k1 kN k2 k3 Q hq
  have := k2.ev _ _ hc
  simp only [conc, Option.some.injEq] at this
  exact wp_cond_false this.symm (r B w0 M a w k1 kN k2 k3 Q hq)
theorem RMd.skip (hp : Post .normal env h) : RMd P N n .skip env h Post :=
  fun _ _ M a w k1 kN k2 k3 _ hq => wp_skip (hq .normal env h M a w hp (Keep.refl _ _) kN k1 k2 k3)
theorem RMd.ret (hp : Post .ret env h) : RMd P N n .ret env h Post :=
  fun _ _ M a w k1 kN k2 k3 _ hq => wp_ret (hq .ret env h M a w hp (Keep.refl _ _) kN k1 k2 k3)
theorem RMd.goL {id : Nat} {l : List Oper} (k : RO P N n l.toArray l env h Post) : RMd P N n (.region id l.toArray false) env h Post := by
  intro B w0 M a w r hN re held Q hq
  refine wp_region ?_
  rw [List.range_eq_range']
  have ea : a = addD a.defers (clr a) := by cases a; rfl
  have := k 0 (by simp) B w M (clr a) w r.restart hN re (fun e a' w' => e = .normal ∧ Q .normal (addD a.defers a') w') (fun env' h' M' a' w' p g n' r' re' => by
    have e0 : a'.defers = [] := re'.defers
    refine ⟨rfl, hq .normal env' h' M' _ w' p g n' (r.rebase r') ?_ ?_⟩
    · have : clr (addD a.defers a') = a' := by
        obtain ⟨t, d⟩ := a'
        simp only at e0
        subst e0
        rfl
      rw [this]; exact re'
    · have : (addD a.defers a').defers = a.defers := by simp [addD, e0]
      rw [this]
      exact held.step r'.belowM.marks)
  rw [ea]
  have h2 := wpOps_add a.defers (Q' := Q) (by rintro ⟨_, _, h, _⟩; cases h) (fun a' w' h' => h'.2) (by rintro _ _ _ ⟨h, _⟩; cases h) _ _ _ this
  simpa using h2
end
theorem HRel.putMark {P : Program} {B : Nat} {w0 : World} {M : Map} {h : Heap} {W : World} (r : HRel P B w0 M h W) {D : Nat} (hD : w0.heap.size ≤ D) {o : Obj} (ho : W.heap[D]? = some o) (hm : isMark o = true) (o' : Obj) : HRel P B w0 M h (W.putObj D o') := by
  have hlt := (Array.getElem?_eq_some_iff.1 ho).1
  have hne : ∀ (i : Nat) (p : Loc), M i = some p → ∀ ob, h.objs.get i = some ob → ob.isRo = false → p.b ≠ D := fun i p hp ob hi hr e => by
    have := r.noMark hp hi hr (o := o) (by rw [e]; exact ho)
    rw [hm] at this; cases this
  have g := grownBy_putObj' W D o'
  refine ⟨⟨below_grown r.below r.base.1 g (fun b e => by cases e; exact Nat.le_trans r.base.1 hD), fun k o1 hk ho1 => ?_⟩, r.base, r.fresh, fun i p hp => ?_, r.inj⟩
  · have hx := r.belowM.marks k o1 hk ho1
    have hk' := (Array.getElem?_eq_some_iff.1 hk).1
    rw [World.putObj_heap_other (by omega)]
    exact hx
  · obtain ⟨h1, h2, h3⟩ := r.obj i p hp
    refine ⟨h1, Nat.lt_of_lt_of_le h2 g.size, ?_⟩
    by_cases e : p.b = D
    · cases hi : h.objs.get i with
      | none => exact True.intro
      | some ob =>
        cases hr : ob.isRo with
        | false => exact absurd e (hne i p hp ob hi hr)
        | true =>
          cases ob with
          | ro el es c =>
            rw [hi, e, ho] at h3
            intro j x hx
            obtain ⟨y, _, hy⟩ := h3 j x hx
            cases o <;> first | (cases hy; done) | cases hm
          | _ => cases hr
    · rw [World.putObj_heap_other e]; exact h3
theorem CSem.intoM {P : Program} {f : FuncId} {fn : Func} {c : Code} {nt : Nat} {rs : List ResultVar} {args : List AV} {env : Env} {h hf : Heap} {v : AV} (hfn : P.funcs[f]? = some fn) (hb : fn.body = some c) (hnt : fn.ntmps = nt) (hrs : fn.results.toList = rs)
    (hle : Nat.ble args.length nt = true) (henter : aenter args 0 .leaf = some env) (r : RM P h.next nt c env h (Fin P h.next rs v hf)) : CSem P f args h v hf := by
  subst hnt hrs
  intro B w0 M w hr cargs hc
  have hlen := concs_length hc
  refine callsIn_wide.1 (callsIn_of_wp_marks (n := 3) hfn hb trivial (wpIn_wide.2 ?_))
  have hle' : args.length ≤ fn.ntmps := by simpa using hle
  have re : ERel M fn.ntmps env { tmps := cargs.toArray ++ Array.replicate (fn.ntmps - cargs.toArray.size) undef, defers := [] } := by
    refine ⟨rfl, by simp; omega, fun t v hv => ?_⟩
    rw [aenter_get henter] at hv
    split at hv
    · rename_i ht
      obtain ⟨x, k1, k2⟩ := concs_get hc hv
      refine ⟨x, k2, ?_⟩
      simp only [Nat.sub_zero] at k1
      have hlt : t < cargs.length := (List.getElem?_eq_some_iff.1 k1).1
      rw [Array.getElem?_append_left (by simpa using hlt)]
      simpa using k1
    · simp [T.get] at hv
  refine r B w0 M _ w hr (Nat.le_refl _) re _ ?_
  intro e env' h' M' a' w' hp g n' r' re' held
  obtain ⟨he, vs, hvs, ids, hl, hv⟩ := hp
  have gg : Grow h hf M (M'.via ids) := by
    have hk : Keep h.next M (M'.via ids) := g.trans (hl.keep M')
    refine ⟨fun i p hi => ?_, hk, hl.next⟩
    have : i < h.next := by
      rcases Nat.lt_or_ge i h.next with h1 | h1
      · exact h1
      · rw [hr.fresh i h1] at hi; cases hi
    rw [hk i this]
    exact hi
  have fin : LeavesInM Fence.wide 3 P fn a'.tmps (fun e w' => ∃ M' c, Grow h hf M M' ∧ e = .returned c ∧ conc M' v = some c ∧ HRel P B w0 M' hf w') a'.defers .returning w' := by
    rcases held with h0 | ⟨D, h0, h1, h2⟩
    · rw [h0]
      obtain ⟨u, k1, k2⟩ := afinish_sound r' re' hvs
      exact ⟨u, k2, M'.via ids, u, gg, rfl, by rw [hv M']; exact k1, r'.lay hl⟩
    · rw [h0]
      refine ⟨by simp, .inl ⟨_, _, rfl, run_takeDeferred h2, ?_⟩⟩
      have r2 := r'.putMark h1 h2 rfl (.deferred none)
      obtain ⟨u, k1, k2⟩ := afinish_sound r2 re' hvs
      exact ⟨u, k2, M'.via ids, u, gg, rfl, by rw [hv M']; exact k1, r2.lay hl⟩
  cases e with
  | normal => exact fin
  | ret => exact fin
  | exit id => cases he
set_option maxRecDepth 100000 in
theorem sem95 {h h1 h2 : Heap} {i len j j' : Nat} {node : Int} (ha : h.add (.cells 24 1 [.slice i 0 len 5] true) = some (j, h1)) (hb : h1.add (.cells 3 1 [.int .i64 node] true) = some (j', h2)) : CSem Tryz.prog 95 [.slice i 0 len 5, .int .i64 node] h (.func (.func 162) [] [.ptr j' 0, .ptr j 0]) h2 := by
  intro B w0 M w r cargs hc
  simp only [concs, conc] at hc
  cases hp : M i with
  | none => simp [hp] at hc
  | some p =>
    simp only [hp, Option.bind_some] at hc
    split at hc
    · rename_i v1 l1 e1 e2
      simp only [Option.some.injEq] at hc
      subst hc
      simp only [Option.some.injEq] at e2
      subst e2
      split at e1
      · rename_i hcap
        simp only [Option.some.injEq] at e1
        subst e1
        have := above_in Fence.wide 3 (fun _ => trivial) rfl (some ⟨p.b, p.base + 0 * 5, none⟩) len (p.cap - 0) node w
        refine (callsIn_wide.1 this).mono ?_
        rintro e w' ⟨rfl, rfl⟩
        obtain ⟨n1, g1, r1⟩ := r.add ha (co := .cells #[.slice (some ⟨p.b, p.base + 0 * 5, none⟩) len (p.cap - 0)] 24) (cap := 1) ⟨rfl, by kernel_rfl, by kernel_rfl, by decide, (by show 1 ≤ maxLen; decide), _, rfl, rfl, by simp, fun _ => rfl, fun k a hk => by
          cases k with
          | zero =>
            simp only [List.getElem?_cons_zero, Option.some.injEq] at hk
            subst hk
            exact ⟨_, by simp only [conc, hp, Option.bind_some]; rw [if_pos hcap]; rfl, rfl⟩
          | succ k => simp at hk⟩
        obtain ⟨n2, g2, r2⟩ := r1.add hb (co := .cells #[.int .i64 node] 3) (cap := 1) ⟨rfl, by kernel_rfl, by kernel_rfl, by decide, (by show 1 ≤ maxLen; decide), _, rfl, rfl, by simp, fun _ => rfl, fun k a hk => by
          cases k with
          | zero =>
            simp only [List.getElem?_cons_zero, Option.some.injEq] at hk
            subst hk
            exact ⟨_, by simp [conc], rfl⟩
          | succ k => simp at hk⟩
        have m1 : (M.put j ⟨w.heap.size, 0, 1⟩) j = some ⟨w.heap.size, 0, 1⟩ := by simp [Map.put]
        refine ⟨_, _, g1.trans g2, rfl, ?_, r2⟩
        have m2 := Map.le_put (p := ⟨w.heap.size + 1, 0, 1⟩) n2 j _ m1
        have m3 : ((M.put j ⟨w.heap.size, 0, 1⟩).put j' ⟨w.heap.size + 1, 0, 1⟩) j' = some ⟨w.heap.size + 1, 0, 1⟩ := by simp [Map.put]
        simp [conc, concs, m2, m3]
      · cases e1
    · cases hc
theorem Keep.le {A B : Nat} {M M' : Map} (h : A ≤ B) (k : Keep B M M') : Keep A M M' := fun i hi => k i (Nat.lt_of_lt_of_le hi h)
theorem RM.above {N n K : Nat} {env : Env} {h : Heap} {Post : APost} (hK : h.next = K) (hNK : N ≤ K)
    {ib is i0 node : Nat} {ns : List Nd} (hn : node < ns.length) (hl : Lam (sizes ns)) (hlen : ns.length ≤ 700) (hbox : IterH ns node ib is i0 h)
    {g : Operand} {p t : Tmp} (hg : aeval env g = some (.func (.func 162) [] [.ptr ib 0, .ptr is 0])) {id : Nat} {ty : TypeId} {pos : String} {body : Code} (hp' : p < n) (envx : Nat → Env)
    (he : ∀ x : Nat, x < node → ∃ e1, aput env n (some p) (.int .i64 (x : Int)) = some e1 ∧ aput e1 n (some t) (.int .i64 (x : Int)) = some (envx x))
    (hp : List Nat → Heap) (h00 : hp [] = h) (hflat : ∀ pre : List Nat, (∀ y ∈ pre, y < node) → ∀ i, flatO ((hp pre).objs.get i) = true) (hKn : ∀ pre, K ≤ (hp pre).next) (hbx : ∀ pre, IterH ns node ib is i0 (hp pre))
    (round : ∀ (pre : List Nat) (x : Nat), (∀ y ∈ pre, y < node) → pre.length < node → x < node → RSI Tryz.prog K n body (envx x) (hp pre) (fun e _ h' => e = .normal ∧ ∃ ids, Lay K ids h' (hp (pre ++ [x]))))
    (hpost : Post .normal env (hp (ancF (sizeAt ns) node node))) : RM Tryz.prog N n (.rangeFunc g #[p] (.region id #[⟨some t, .assign (.tmp p), ty, pos, #[], none⟩] false) body) env h Post := by
  intro B w0 M a w r hN re Q hq
  refine wpIn_wide.1 (above_loop (m := 3) r re hK (by omega) hn hl hlen hbox hg hp' envx he hp h00 hflat hKn hbx round ?_)
  intro D M' W k r' hD hW
  subst hK
  have le := Map.le_of_keep r k
  have ed : a.defers = [] := re.defers
  refine hq .normal env _ M' _ W hpost (Keep.le hNK k) (Nat.le_trans hNK (hKn _)) r' ?_ ?_
  · have : clr { a with defers := { target := .collected D, args := #[] } :: a.defers } = a := by
      obtain ⟨t, d⟩ := a
      simp only at ed
      subst ed
      rfl
    rw [this]; exact re.mono le
  · refine .inr ⟨D, by rw [ed], Nat.le_trans r.below.size hD, hW⟩
def aput2 (env : Env) (n p t : Nat) (v : AV) : Env := match aput env n (some p) v with
  | some e1 => match aput e1 n (some t) v with
    | some e2 => e2
    | none => env
  | none => env
theorem aput2_eq {env e1 e2 : Env} {n p t : Nat} {v : AV} (h1 : aput env n (some p) v = some e1) (h2 : aput e1 n (some t) v = some e2) : aput2 env n p t v = e2 := by
  unfold aput2
  simp only [h1, h2]
theorem RM.aboveE {N n K : Nat} {env : Env} {h : Heap} {Post : APost} (hK : h.next = K) (hNK : N ≤ K)
    {ib is i0 node : Nat} {ns : List Nd} (hn : node < ns.length) (hl : Lam (sizes ns)) (hlen : ns.length ≤ 700) (hbox : IterH ns node ib is i0 h)
    {g : Operand} {p t : Tmp} (hg : aeval env g = some (.func (.func 162) [] [.ptr ib 0, .ptr is 0])) {id : Nat} {ty : TypeId} {pos : String} {body : Code} (hp' : p < n)
    (hp : List Nat → Heap) (h00 : hp [] = h) (hflat : ∀ pre : List Nat, (∀ y ∈ pre, y < node) → ∀ i, flatO ((hp pre).objs.get i) = true) (hKn : ∀ pre, K ≤ (hp pre).next) (hbx : ∀ pre, IterH ns node ib is i0 (hp pre))
    (round : ∀ (pre : List Nat) (x : Nat), (∀ y ∈ pre, y < node) → pre.length < node → x < node → ∃ e1, aput env n (some p) (.int .i64 (x : Int)) = some e1 ∧ ∃ e2, aput e1 n (some t) (.int .i64 (x : Int)) = some e2 ∧ RSI Tryz.prog K n body e2 (hp pre) (fun e _ h' => e = .normal ∧ ∃ ids, Lay K ids h' (hp (pre ++ [x]))))
    (hpost : Post .normal env (hp (ancF (sizeAt ns) node node))) : RM Tryz.prog N n (.rangeFunc g #[p] (.region id #[⟨some t, .assign (.tmp p), ty, pos, #[], none⟩] false) body) env h Post := by
  refine RM.above hK hNK hn hl hlen hbox hg hp' (fun x => aput2 env n p t (.int .i64 (x : Int))) (fun x hx => ?_) hp h00 hflat hKn hbx (fun pre x a b c => ?_) hpost
  · obtain ⟨e1, q1, e2, q2, _⟩ := round [] x (fun y hy => by cases hy) (by show 0 < node; omega) hx
    exact ⟨e1, q1, by rw [aput2_eq q1 q2]; exact q2⟩
  · obtain ⟨e1, q1, e2, q2, k⟩ := round pre x a b c
    rw [aput2_eq q1 q2]
    exact k
end Go.Am
namespace Go.Am
open Go Go.Proofs Go.RowKit Go.Pu
set_option maxRecDepth 100000
set_option linter.unusedVariables false
theorem Sm {p q : Prop} (k : q) (h : q → p := by
  first
    | with_reducible exact RMd.seq
    | with_reducible exact RMd.goL
    | with_reducible exact ThenMd.n
    | with_reducible exact ThenMd.r
    | with_reducible exact ThenM.r
    | with_reducible exact RMd.skip
    | with_reducible exact RMd.ret
    | with_reducible exact RSI.seq
    | with_reducible exact RSI.block
    | with_reducible exact ThenSI.n
    | ((with_reducible refine RMd.condT ?hb); (case hb => exact rfl))
    | ((with_reducible refine RMd.condF ?hb); (case hb => exact rfl))
    | ((with_reducible refine RSI.goL ?hb); (case hb => exact rfl))
    | fail) : p := h k
end Go.Am
namespace Go.Am
open Go Go.Pu
theorem sizeAt_of {ns : List Nd} {k : Nat} (hk : k < ns.length) : (sizes ns)[k]? = some (sizeAt ns k) := by
  obtain ⟨x, hx⟩ : ∃ x, ns[k]? = some x := ⟨ns[k], by simp [hk]⟩
  unfold sizeAt
  simp [sizes, hx]
end Go.Am
