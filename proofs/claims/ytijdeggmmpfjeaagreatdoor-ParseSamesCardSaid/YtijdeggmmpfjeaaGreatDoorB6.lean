/- Part of the proof: WkY. -/
import Derived.Test.YtijdeggmmpfjeaaGreatDoorB5
import Derived.Test.YtijdeggmmpfjeaaGreatDoorA9
set_option linter.unusedSimpArgs false
set_option linter.unusedVariables false
set_option linter.unusedSectionVars false
namespace Go.Am
open Go Go.Proofs Go.RowKit Go.Pu
set_option maxRecDepth 100000
def Mid {σ : Type} (N : Nat) (inv : σ → Prop) (st : σ → List (Nat × AV)) (hp : σ → Heap) : APost
  | .normal, env', h' => ∃ s, inv s ∧ ∃ ids, Lay N ids h' (hp s) ∧ HasR env' ids (st s)
  | _, _, _ => False
theorem Mid.n {σ : Type} {N : Nat} {inv : σ → Prop} {st : σ → List (Nat × AV)} {hp : σ → Heap} {env' : Env} {h' : Heap} (s : σ) (ids : List Nat) (i : inv s) (l : Lay N ids h' (hp s)) (r : HasR env' ids (st s)) : Mid N inv st hp .normal env' h' := ⟨s, i, ids, l, r⟩
theorem RO.mono {P : Program} {N n : Nat} {ops : Array Oper} {l : List Oper} {env : Env} {h : Heap} {Post Post' : APost} (r : RO P N n ops l env h Post) (hp : ∀ env' h', Post .normal env' h' → Post' .normal env' h') : RO P N n ops l env h Post' :=
  fun k hl B w0 M a w k1 kN k2 Q hq => r k hl B w0 M a w k1 kN k2 Q fun env' h' M' a' w' p => hq env' h' M' a' w' (hp _ _ p)
theorem RO.cut {P : Program} {σ : Type} {N n : Nat} {ops : Array Oper} {l : List Oper} {y : Code} {env : Env} {h : Heap} {Post : APost} (inv : σ → Prop) (st : σ → List (Nat × AV)) (hp : σ → Heap) (r1 : RO P N n ops l env h (Mid N inv st hp)) (r2 : ∀ s, inv s → ∃ env0, envOf (st s) .leaf = some env0 ∧ RS P N n y env0 (hp s) Post) : RO P N n ops l env h (ThenS P N n y Post) :=
  r1.mono fun env' h' ⟨s, i, ids, hl, hr⟩ => by
    obtain ⟨e0, he, r⟩ := r2 s i
    exact RS.lay ids (st s) (hp s) hl hr he r
theorem OSem.eqD {P : Program} {ext : FuncId → Bool} (hext : ExtOk P ext) {d : Option Tmp} {ty : TypeId} {pos : String} {af : Array Edge} {gd : Option (Nat × Bool)} {g : Ev} {h : Heap} {t t' : TypeId} {x y : Operand} {k : IntKind} {a b : Int} {r : Bool} (hx : g x = some (.int k a)) (hy : g y = some (.int k b)) (hk : ikeq k k = true) (hr : decide (a = b) = r) : OSem P ⟨d, .binOp .eql t x y t', ty, pos, af, gd⟩ g h (.bool r) h := hr ▸ OSem.eqi hext hx hy hk
theorem OSem.ltD {P : Program} {ext : FuncId → Bool} (hext : ExtOk P ext) {d : Option Tmp} {ty : TypeId} {pos : String} {af : Array Edge} {gd : Option (Nat × Bool)} {g : Ev} {h : Heap} {t t' : TypeId} {x y : Operand} {k : IntKind} {a b : Int} {r : Bool} (hx : g x = some (.int k a)) (hy : g y = some (.int k b)) (hk : ikeq k k = true) (hr : decide (a < b) = r) : OSem P ⟨d, .binOp .lss t x y t', ty, pos, af, gd⟩ g h (.bool r) h := hr ▸ OSem.lss hext hx hy hk
theorem OSem.gtD {P : Program} {ext : FuncId → Bool} (hext : ExtOk P ext) {d : Option Tmp} {ty : TypeId} {pos : String} {af : Array Edge} {gd : Option (Nat × Bool)} {g : Ev} {h : Heap} {t t' : TypeId} {x y : Operand} {k : IntKind} {a b : Int} {r : Bool} (hx : g x = some (.int k a)) (hy : g y = some (.int k b)) (hk : ikeq k k = true) (hr : decide (a > b) = r) : OSem P ⟨d, .binOp .gtr t x y t', ty, pos, af, gd⟩ g h (.bool r) h := hr ▸ OSem.gtr hext hx hy hk
theorem OSem.nbD {P : Program} {ext : FuncId → Bool} (hext : ExtOk P ext) {d : Option Tmp} {ty : TypeId} {pos : String} {af : Array Edge} {gd : Option (Nat × Bool)} {g : Ev} {h : Heap} {t t' : TypeId} {x y : Operand} {a b r : Bool} (hx : g x = some (.bool a)) (hy : g y = some (.bool b)) (hv : abin P .neq t x y (.bool a) (.bool b) = some (.bool (!(a == b)))) (hr : (!(a == b)) = r) : OSem P ⟨d, .binOp .neq t x y t', ty, pos, af, gd⟩ g h (.bool r) h := hr ▸ OSem.bin hext hx hy hv
def memb (t : Nat) : List Nat → Bool
  | [] => false
  | a :: l => bif Nat.beq t a then true else memb t l
theorem memb_iff (t : Nat) : ∀ l : List Nat, memb t l = decide (t ∈ l)
  | [] => rfl
  | a :: l => by
    unfold memb
    rw [memb_iff t l]
    by_cases h : t = a
    · subst h; simp
    · have : Nat.beq t a = false := by
        cases hb : Nat.beq t a with
        | false => rfl
        | true => exact absurd (Nat.eq_of_beq_eq_true hb) h
      simp [this, h]
def gfast (L : List Tmp) (env : Env) : Ev
  | .tmp t => bif memb t L then env.get t else none
  | x => aeval env x
theorem gfast_eq (L : List Tmp) (env : Env) : gfast L env = glim L env := by
  funext x
  cases x with
  | tmp t =>
    show (bif memb t L then env.get t else none) = if t ∈ L then env.get t else none
    rw [memb_iff]
    by_cases h : t ∈ L <;> simp [h]
  | _ => rfl
theorem RD.calmF {P : Program} {n : Nat} {ops : Array Oper} {o : Oper} {l : List Oper} {r0 : Option (Nat × TypeId × List AV)} {rs : List (Option (Nat × TypeId × List AV))} {env env1 : Env} {h : Heap} {v : AV} {K : List Rec → Env → List Heap → Prop} {L : List Tmp} (hL : o.looksAt ops = L)
    (hw : awanted ops (aeval env) o = some true) (ho : ∀ H, OSem P o (gfast L env) H v H) (hp : aput env n o.dst v = some env1) (rest : RD P n ops l rs env1 h fun recs e hs => K (⟨o, env, .calm, v⟩ :: recs) e hs) : RD P n ops (o :: l) (r0 :: rs) env h K :=
  RD.calm hw (fun H => by rw [hL, ← gfast_eq]; exact ho H) hp rest
theorem RD.readF {P : Program} {n : Nat} {ops : Array Oper} {o : Oper} {l : List Oper} {r0 : Option (Nat × TypeId × List AV)} {rs : List (Option (Nat × TypeId × List AV))} {env env1 : Env} {h : Heap} {v : AV} {K : List Rec → Env → List Heap → Prop} {L : List Tmp} (hL : o.looksAt ops = L)
    (hw : awanted ops (aeval env) o = some true) (ho : OSem P o (gfast L env) h v h) (hp : aput env n o.dst v = some env1) (rest : RD P n ops l rs env1 h fun recs e hs => K (⟨o, env, .read, v⟩ :: recs) e hs) : RD P n ops (o :: l) (r0 :: rs) env h K :=
  RD.read hw (by rw [hL, ← gfast_eq]; exact ho) hp fun _ => rest
theorem RD.effF {P : Program} {n : Nat} {ops : Array Oper} {o : Oper} {l : List Oper} {r0 : Option (Nat × TypeId × List AV)} {rs : List (Option (Nat × TypeId × List AV))} {env env1 : Env} {h h1 : Heap} {v : AV} {K : List Rec → Env → List Heap → Prop} {L : List Tmp} (hL : o.looksAt ops = L)
    (hw : awanted ops (aeval env) o = some true) (ho : OSem P o (gfast L env) h v h1) (hp : aput env n o.dst v = some env1) (rest : RD P n ops l rs env1 h1 fun recs e hs => K (⟨o, env, .eff, v⟩ :: recs) e (h :: hs)) : RD P n ops (o :: l) (r0 :: rs) env h K :=
  RD.eff hw (by rw [hL, ← gfast_eq]; exact ho) hp rest
theorem RD.opEq {P : Program} {ext : FuncId → Bool} {n : Nat} {ops : Array Oper} {l : List Oper} {r0 : Option (Nat × TypeId × List AV)} {rs : List (Option (Nat × TypeId × List AV))} {env env1 : Env} {h : Heap} {K : List Rec → Env → List Heap → Prop} {L : List Tmp} {d : Option Tmp} {ty : TypeId} {pos : String} {af : Array Edge} {gd : Option (Nat × Bool)} (hext : ExtOk P ext) {t t' : TypeId} {x y : Operand} {k : IntKind} {a b : Int} {r : Bool} (hL : (⟨d, .binOp .eql t x y t', ty, pos, af, gd⟩ : Oper).looksAt ops = L) (hw : awanted ops (aeval env) (⟨d, .binOp .eql t x y t', ty, pos, af, gd⟩ : Oper) = some true) (hx : gfast L env x = some (.int k a)) (hy : gfast L env y = some (.int k b)) (hk : ikeq k k = true) (hr : decide (a = b) = r) (hp : aput env n d (.bool r) = some env1) (rest : RD P n ops l rs env1 h fun recs e hs => K (⟨(⟨d, .binOp .eql t x y t', ty, pos, af, gd⟩ : Oper), env, .calm, (.bool r)⟩ :: recs) e hs) : RD P n ops ((⟨d, .binOp .eql t x y t', ty, pos, af, gd⟩ : Oper) :: l) (r0 :: rs) env h K :=
  RD.calmF hL hw (fun _ => OSem.eqD hext hx hy hk hr) hp rest
theorem RD.opLt {P : Program} {ext : FuncId → Bool} {n : Nat} {ops : Array Oper} {l : List Oper} {r0 : Option (Nat × TypeId × List AV)} {rs : List (Option (Nat × TypeId × List AV))} {env env1 : Env} {h : Heap} {K : List Rec → Env → List Heap → Prop} {L : List Tmp} {d : Option Tmp} {ty : TypeId} {pos : String} {af : Array Edge} {gd : Option (Nat × Bool)} (hext : ExtOk P ext) {t t' : TypeId} {x y : Operand} {k : IntKind} {a b : Int} {r : Bool} (hL : (⟨d, .binOp .lss t x y t', ty, pos, af, gd⟩ : Oper).looksAt ops = L) (hw : awanted ops (aeval env) (⟨d, .binOp .lss t x y t', ty, pos, af, gd⟩ : Oper) = some true) (hx : gfast L env x = some (.int k a)) (hy : gfast L env y = some (.int k b)) (hk : ikeq k k = true) (hr : decide (a < b) = r) (hp : aput env n d (.bool r) = some env1) (rest : RD P n ops l rs env1 h fun recs e hs => K (⟨(⟨d, .binOp .lss t x y t', ty, pos, af, gd⟩ : Oper), env, .calm, (.bool r)⟩ :: recs) e hs) : RD P n ops ((⟨d, .binOp .lss t x y t', ty, pos, af, gd⟩ : Oper) :: l) (r0 :: rs) env h K :=
  RD.calmF hL hw (fun _ => OSem.ltD hext hx hy hk hr) hp rest
theorem RD.opGt {P : Program} {ext : FuncId → Bool} {n : Nat} {ops : Array Oper} {l : List Oper} {r0 : Option (Nat × TypeId × List AV)} {rs : List (Option (Nat × TypeId × List AV))} {env env1 : Env} {h : Heap} {K : List Rec → Env → List Heap → Prop} {L : List Tmp} {d : Option Tmp} {ty : TypeId} {pos : String} {af : Array Edge} {gd : Option (Nat × Bool)} (hext : ExtOk P ext) {t t' : TypeId} {x y : Operand} {k : IntKind} {a b : Int} {r : Bool} (hL : (⟨d, .binOp .gtr t x y t', ty, pos, af, gd⟩ : Oper).looksAt ops = L) (hw : awanted ops (aeval env) (⟨d, .binOp .gtr t x y t', ty, pos, af, gd⟩ : Oper) = some true) (hx : gfast L env x = some (.int k a)) (hy : gfast L env y = some (.int k b)) (hk : ikeq k k = true) (hr : decide (a > b) = r) (hp : aput env n d (.bool r) = some env1) (rest : RD P n ops l rs env1 h fun recs e hs => K (⟨(⟨d, .binOp .gtr t x y t', ty, pos, af, gd⟩ : Oper), env, .calm, (.bool r)⟩ :: recs) e hs) : RD P n ops ((⟨d, .binOp .gtr t x y t', ty, pos, af, gd⟩ : Oper) :: l) (r0 :: rs) env h K :=
  RD.calmF hL hw (fun _ => OSem.gtD hext hx hy hk hr) hp rest
theorem RD.opNe {P : Program} {ext : FuncId → Bool} {n : Nat} {ops : Array Oper} {l : List Oper} {r0 : Option (Nat × TypeId × List AV)} {rs : List (Option (Nat × TypeId × List AV))} {env env1 : Env} {h : Heap} {K : List Rec → Env → List Heap → Prop} {L : List Tmp} {d : Option Tmp} {ty : TypeId} {pos : String} {af : Array Edge} {gd : Option (Nat × Bool)} (hext : ExtOk P ext) {t t' : TypeId} {x y : Operand} {a b r : Bool} (hL : (⟨d, .binOp .neq t x y t', ty, pos, af, gd⟩ : Oper).looksAt ops = L) (hw : awanted ops (aeval env) (⟨d, .binOp .neq t x y t', ty, pos, af, gd⟩ : Oper) = some true) (hx : gfast L env x = some (.bool a)) (hy : gfast L env y = some (.bool b)) (hv : abin P .neq t x y (.bool a) (.bool b) = some (.bool (!(a == b)))) (hr : (!(a == b)) = r) (hp : aput env n d (.bool r) = some env1) (rest : RD P n ops l rs env1 h fun recs e hs => K (⟨(⟨d, .binOp .neq t x y t', ty, pos, af, gd⟩ : Oper), env, .calm, (.bool r)⟩ :: recs) e hs) : RD P n ops ((⟨d, .binOp .neq t x y t', ty, pos, af, gd⟩ : Oper) :: l) (r0 :: rs) env h K :=
  RD.calmF hL hw (fun _ => OSem.nbD hext hx hy hv hr) hp rest
theorem RD.opLd1 {P : Program} {ext : FuncId → Bool} {n : Nat} {ops : Array Oper} {l : List Oper} {r0 : Option (Nat × TypeId × List AV)} {rs : List (Option (Nat × TypeId × List AV))} {env env1 : Env} {h : Heap} {K : List Rec → Env → List Heap → Prop} {L : List Tmp} {d : Option Tmp} {ty : TypeId} {pos : String} {af : Array Edge} {gd : Option (Nat × Bool)} (hext : ExtOk P ext) {t : TypeId} {x : Operand} {i off : Nat} {D : TypeDesc} {v : AV} (hL : (⟨d, .load t x, ty, pos, af, gd⟩ : Oper).looksAt ops = L) (hw : awanted ops (aeval env) (⟨d, .load t x, ty, pos, af, gd⟩ : Oper) = some true) (hx : gfast L env x = some (.ptr i off)) (hu : P.underlying t = some D) (hD : isAggB D = false) (hv : acells h i off 1 = some [v]) (hp : aput env n d v = some env1) (rest : RD P n ops l rs env1 h fun recs e hs => K (⟨(⟨d, .load t x, ty, pos, af, gd⟩ : Oper), env, .read, v⟩ :: recs) e hs) : RD P n ops ((⟨d, .load t x, ty, pos, af, gd⟩ : Oper) :: l) (r0 :: rs) env h K :=
  RD.readF hL hw (OSem.load1 hext hx hu hD hv) hp rest
theorem RD.opLdN {P : Program} {ext : FuncId → Bool} {n : Nat} {ops : Array Oper} {l : List Oper} {r0 : Option (Nat × TypeId × List AV)} {rs : List (Option (Nat × TypeId × List AV))} {env env1 : Env} {h : Heap} {K : List Rec → Env → List Heap → Prop} {L : List Tmp} {d : Option Tmp} {ty : TypeId} {pos : String} {af : Array Edge} {gd : Option (Nat × Bool)} (hext : ExtOk P ext) {t : TypeId} {x : Operand} {i off : Nat} {D : TypeDesc} {vs : List AV} (hL : (⟨d, .load t x, ty, pos, af, gd⟩ : Oper).looksAt ops = L) (hw : awanted ops (aeval env) (⟨d, .load t x, ty, pos, af, gd⟩ : Oper) = some true) (hx : gfast L env x = some (.ptr i off)) (hu : P.underlying t = some D) (hD : isAggB D = true) (hv : acells h i off (P.cellsOf t) = some vs) (hp : aput env n d (.agg vs) = some env1) (rest : RD P n ops l rs env1 h fun recs e hs => K (⟨(⟨d, .load t x, ty, pos, af, gd⟩ : Oper), env, .read, (.agg vs)⟩ :: recs) e hs) : RD P n ops ((⟨d, .load t x, ty, pos, af, gd⟩ : Oper) :: l) (r0 :: rs) env h K :=
  RD.readF hL hw (OSem.loadN hext hx hu hD hv) hp rest
theorem RD.opFn {P : Program} {ext : FuncId → Bool} {n : Nat} {ops : Array Oper} {l : List Oper} {r0 : Option (Nat × TypeId × List AV)} {rs : List (Option (Nat × TypeId × List AV))} {env env1 : Env} {h : Heap} {K : List Rec → Env → List Heap → Prop} {L : List Tmp} {d : Option Tmp} {ty : TypeId} {pos : String} {af : Array Edge} {gd : Option (Nat × Bool)} (hext : ExtOk P ext) (f : FuncId) {xs : Array Operand} {ats : Array TypeId} {args : List AV} {v : AV} {fi : FInfo} (hL : (⟨d, .call ⟨.value (.func f), xs, ats⟩, ty, pos, af, gd⟩ : Oper).looksAt ops = L) (hw : awanted ops (aeval env) (⟨d, .call ⟨.value (.func f), xs, ats⟩, ty, pos, af, gd⟩ : Oper) = some true) (ha : aevals (gfast L env) xs.toList = some args) (hf : finfo P f = some fi) (hs : CSem P f args h v h) (hp : aput env n d v = some env1) (rest : RD P n ops l rs env1 h fun recs e hs => K (⟨(⟨d, .call ⟨.value (.func f), xs, ats⟩, ty, pos, af, gd⟩ : Oper), env, .read, v⟩ :: recs) e hs) : RD P n ops ((⟨d, .call ⟨.value (.func f), xs, ats⟩, ty, pos, af, gd⟩ : Oper) :: l) (r0 :: rs) env h K :=
  RD.readF hL hw (OSem.fn hext rfl ha rfl hf hs) hp rest
theorem RD.opFnE {P : Program} {ext : FuncId → Bool} {n : Nat} {ops : Array Oper} {l : List Oper} {r0 : Option (Nat × TypeId × List AV)} {rs : List (Option (Nat × TypeId × List AV))} {env env1 : Env} {h h1 : Heap} {K : List Rec → Env → List Heap → Prop} {L : List Tmp} {d : Option Tmp} {ty : TypeId} {pos : String} {af : Array Edge} {gd : Option (Nat × Bool)} (hext : ExtOk P ext) (f : FuncId) {xs : Array Operand} {ats : Array TypeId} {args : List AV} {v : AV} {fi : FInfo} (hL : (⟨d, .call ⟨.value (.func f), xs, ats⟩, ty, pos, af, gd⟩ : Oper).looksAt ops = L) (hw : awanted ops (aeval env) (⟨d, .call ⟨.value (.func f), xs, ats⟩, ty, pos, af, gd⟩ : Oper) = some true) (ha : aevals (gfast L env) xs.toList = some args) (hf : finfo P f = some fi) (hs : CSem P f args h v h1) (hp : aput env n d v = some env1) (rest : RD P n ops l rs env1 h1 fun recs e hs => K (⟨(⟨d, .call ⟨.value (.func f), xs, ats⟩, ty, pos, af, gd⟩ : Oper), env, .eff, v⟩ :: recs) e (h :: hs)) : RD P n ops ((⟨d, .call ⟨.value (.func f), xs, ats⟩, ty, pos, af, gd⟩ : Oper) :: l) (r0 :: rs) env h K :=
  RD.effF hL hw (OSem.fn hext rfl ha rfl hf hs) hp rest
theorem ruleE_keys : plains (ruleE.map Prod.fst) = true := by decide +kernel
def implAll (ns : List Nd) : Nat → Nat → Bool
  | 0, _ => true
  | f + 1, i => match ns[i]? with
    | some x => implOk isNm ns i x && implAll ns f (i + 1)
    | none => true
def implFormB (ns : List Nd) : Bool := sizedB ns && ((match ns[0]? with | some x => decide (x.k = 1) | none => false) && implAll ns ns.length 0)
theorem implAll_iff {ns : List Nd} : ∀ (f i : Nat), ns.length ≤ i + f → (implAll ns f i = true ↔ ∀ j x, i ≤ j → ns[j]? = some x → implOk isNm ns j x = true)
  | 0, i, hf => by
    refine ⟨fun _ j x hj hx => ?_, fun _ => rfl⟩
    have := (List.getElem?_eq_some_iff.1 hx).1
    omega
  | f + 1, i, hf => by
    unfold implAll
    cases hx : ns[i]? with
    | none =>
      refine ⟨fun _ j y hj hy => ?_, fun _ => rfl⟩
      have h1 := (List.getElem?_eq_some_iff.1 hy).1
      rw [List.getElem?_eq_none_iff] at hx
      omega
    | some x =>
      simp only [Bool.and_eq_true]
      rw [implAll_iff f (i + 1) (by omega)]
      constructor
      · rintro ⟨h1, h2⟩ j y hj hy
        by_cases he : j = i
        · subst he; rw [hx] at hy; simp only [Option.some.injEq] at hy; subst hy; exact h1
        · exact h2 j y (by omega) hy
      · intro h
        exact ⟨h i x (Nat.le_refl _) hx, fun j y hj hy => h j y (by omega) hy⟩
theorem sizedB_iff {ns : List Nd} : sizedB ns = true ↔ (∃ x, ns[0]? = some x ∧ x.s = (ns.length : Int)) ∧ Lam (sizes ns) := by
  unfold sizedB
  have hz : (sizes ns).length = ns.length := by simp [sizes]
  cases hx : ns[0]? with
  | none => simp
  | some x =>
    have := areSz_Lam (sizes ns)
    rw [hz] at this
    simp [this]
theorem implFormB_iff (ns : List Nd) : implFormB ns = true ↔ ImplForm isNm ns := by
  unfold implFormB
  rw [Bool.and_eq_true, Bool.and_eq_true, sizedB_iff, implAll_iff ns.length 0 (by omega)]
  constructor
  · rintro ⟨⟨⟨x, hx, hs⟩, hl⟩, hk, ha⟩
    rw [hx] at hk
    exact ⟨hl, ⟨x, hx, by simpa using hk, hs⟩, fun i y hy => ha i y (Nat.zero_le _) hy⟩
  · rintro ⟨hl, ⟨x, hx, hk, hs⟩, he⟩
    refine ⟨⟨⟨x, hx, hs⟩, hl⟩, ?_, fun j y _ hy => he j y hy⟩
    rw [hx]; simpa using hk
theorem form_same (ns : List Nd) (o : NdOk ns) : implFormB ns = refFormB ns := by
  rw [Bool.eq_iff_iff, implFormB_iff, refFormB_iff]
  exact form_eq o.k
theorem lk_R (k : Nat) (h : letK k ≠ 32) : ruleR k = (ruleS k).map := by unfold ruleR; rw [if_neg h]
theorem implSized_map (r : Rule) (m : Int) : implSized r.map m = implSized r m := by
  unfold implSized Rule.map
  simp
theorem implOk_eq {ns : List Nd} {i : Nat} {x : Nd} {w : List UInt8} (hw : lettersOf letK ns (kidsOf (sizes ns) i) = w) {bL b1 b2 b12 bK bS bN bM bA bB : Bool} (hL : decide (((letK x.k).toNat : Int) = 32) = bL) (h1 : decide ((x.k : Int) = 1) = b1) (h2 : decide ((i : Int) = 0) = b2) (h12 : (!(b1 == b2)) = b12) (hK : lk (ruleR x.k) w = bK) (hS : implSized (ruleR x.k) w.length = bS) (hN : textOk isNm (ruleR x.k).named x.t = bN) (hM : implNum x.k x.n w.length = bM) (hA : decide (x.a < 0) = bA) (hB : decide (x.a > 2500) = bB) :
    implOk isNm ns i x = (!bL && (!b12 && (bK && (bS && (bN && (bM && (!bA && !bB))))))) := by
  have e1 : decide ((x.k : Int) = 1) = decide (x.k = 1) := by simp; omega
  have e2 : decide ((i : Int) = 0) = decide (i = 0) := by simp
  have eL : decide (((letK x.k).toNat : Int) = 32) = decide (letK x.k = 32) := by
    have := u8l (letK x.k) 32 (by decide)
    rw [decide_eq_decide]
    exact this
  have e3 : (decide (0 ≤ x.a) && decide (x.a ≤ 2500)) = (!decide (x.a < 0) && !decide (x.a > 2500)) := by
    rw [Bool.eq_iff_iff]; simp
  unfold implOk
  dsimp only
  rw [hw, e3, hA, hB, hM, ← e1, h1, ← e2, h2]
  have hLL : decide (letK x.k ≠ 32) = !bL := by rw [← hL, eL]; simp
  rw [hLL]
  cases bL with
  | true => rfl
  | false =>
    have hne : letK x.k ≠ 32 := by simpa using hLL
    rw [lk_R _ hne] at hK hS hN
    rw [implSized_map] at hS
    rw [hK, hS, ← hN, ← h12]
    cases b1 <;> cases b2 <;> rfl
end Go.Am
