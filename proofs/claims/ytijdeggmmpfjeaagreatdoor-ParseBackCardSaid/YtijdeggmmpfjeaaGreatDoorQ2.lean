/- Part of the proof: WqC, WqD. -/
import Derived.Test.YtijdeggmmpfjeaaGreatDoorQ1
import Derived.Test.YtijdeggmmpfjeaaGreatDoorP3
set_option linter.unusedSimpArgs false
set_option linter.unusedVariables false
set_option linter.unusedSectionVars false
namespace Go.Am
open Go Go.Proofs Go.RowKit Go.Pu
set_option maxRecDepth 1000000
theorem splice_one {α : Type} (v : α) : ∀ (c : List α) (k : Nat), k < c.length → splice c k [v] = some (c.set k v)
  | [], _, h => by simp at h
  | x :: c, 0, _ => by
    cases c <;> rfl
  | x :: c, k + 1, h => by
    have := splice_one v c k (by simpa using h)
    simp [splice, this]
theorem OSem.st1 {P : Program} {ext : FuncId → Bool} (hext : ExtOk P ext) {d : Option Tmp} {ty : TypeId} {pos : String} {af : Array Edge} {gd : Option (Nat × Bool)} {g : Ev} {h h' : Heap} {t : TypeId} {x y : Operand} {i off e es : Nat} {v : AV} {c c' : List AV} {ex : Bool} (hx : g x = some (.ptr i off)) (hy : g y = some v) (hv : v.cells = [v]) (hone : allOne [v] = true) (hi : (P.info? t).isSome = true) (h1 : Nat.beq 1 (P.cellsOf t) = true) (hg : h.objs.get i = some (.cells e es c ex)) (hlt : off < c.length) (hc : c.set off v = c') (hput : h.put i (some (.cells e es c' ex)) = some h') :
    OSem P ⟨d, .store t x y, ty, pos, af, gd⟩ g h (.tuple []) h' := by
  subst hc
  refine OSem.skip hext ?_
  simp [aop, b1, hx, hy, askip, astore, hi, hv, h1, awrite, hg, hone, splice_one v c off hlt, hput]
theorem RD.opSt {P : Program} {ext : FuncId → Bool} {n : Nat} {ops : Array Oper} {l : List Oper} {r0 : Option (Nat × TypeId × List AV)} {rs : List (Option (Nat × TypeId × List AV))} {env env1 : Env} {h h1 : Heap} {K : List Rec → Env → List Heap → Prop} {L : List Tmp} {d : Option Tmp} {ty : TypeId} {pos : String} {af : Array Edge} {gd : Option (Nat × Bool)} (hext : ExtOk P ext) {t : TypeId} {x y : Operand} {i off e es : Nat} {v : AV} {c : List AV} (c' : List AV) {ex : Bool} (hL : (⟨d, .store t x y, ty, pos, af, gd⟩ : Oper).looksAt ops = L) (hw : awanted ops (aeval env) (⟨d, .store t x y, ty, pos, af, gd⟩ : Oper) = some true) (hx : gfast L env x = some (.ptr i off)) (hy : gfast L env y = some v) (hv : v.cells = [v]) (hone : allOne [v] = true) (hi : (P.info? t).isSome = true) (hk : Nat.beq 1 (P.cellsOf t) = true) (hg : h.objs.get i = some (.cells e es c ex)) (hlt : off < c.length) (hc : c.set off v = c') (hput : h.put i (some (.cells e es c' ex)) = some h1) (hp : aput env n d (.tuple []) = some env1) (rest : RD P n ops l rs env1 h1 fun recs e hs => K (⟨(⟨d, .store t x y, ty, pos, af, gd⟩ : Oper), env, .eff, .tuple []⟩ :: recs) e (h :: hs)) : RD P n ops ((⟨d, .store t x y, ty, pos, af, gd⟩ : Oper) :: l) (r0 :: rs) env h K :=
  RD.effF hL hw (OSem.st1 hext hx hy hv hone hi hk hg hlt hc hput) hp rest
end Go.Am
namespace Go.Am
open Go Go.Proofs Go.RowKit Go.Pu
set_option maxRecDepth 1000000
theorem RD.opBS {P : Program} {n : Nat} {ops : Array Oper} {l : List Oper} {r0 : Option (Nat × TypeId × List AV)} {rs : List (Option (Nat × TypeId × List AV))} {env env1 : Env} {h h1 : Heap} {v : AV} {K : List Rec → Env → List Heap → Prop} {L : List Tmp} {d : Option Tmp} {ty : TypeId} {pos : String} {af : Array Edge} {gd : Option (Nat × Bool)} {t : TypeId} {len : Nat} {ps : Array (Nat × Operand)} (hL : (⟨d, .buildSlice t len ps, ty, pos, af, gd⟩ : Oper).looksAt ops = L)
    (hw : awanted ops (aeval env) (⟨d, .buildSlice t len ps, ty, pos, af, gd⟩ : Oper) = some true) (ho : OSem P ⟨d, .buildSlice t len ps, ty, pos, af, gd⟩ (gfast L env) h v h1) (hp : aput env n d v = some env1) (rest : RD P n ops l rs env1 h1 fun recs e hs => K (⟨(⟨d, .buildSlice t len ps, ty, pos, af, gd⟩ : Oper), env, .eff, v⟩ :: recs) e (h :: hs)) : RD P n ops ((⟨d, .buildSlice t len ps, ty, pos, af, gd⟩ : Oper) :: l) (r0 :: rs) env h K :=
  RD.effF hL hw ho hp rest
def flatT : T AObj → Bool
  | .leaf => true
  | .node v l r => flatO v && (flatT l && flatT r)
theorem flatT_get : ∀ (t : T AObj), flatT t = true → ∀ i, flatO (t.get i) = true
  | .leaf, _, i => rfl
  | .node v l r, h, i => by
    simp only [flatT, Bool.and_eq_true] at h
    unfold T.get
    cases Nat.beq i 0 with
    | true => exact h.1
    | false =>
      cases Nat.beq (i % 2) 1 with
      | true => exact flatT_get l h.2.1 _
      | false => exact flatT_get r h.2.2 _
end Go.Am
