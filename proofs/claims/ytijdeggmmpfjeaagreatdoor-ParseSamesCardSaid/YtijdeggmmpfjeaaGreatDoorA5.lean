/- Part of the proof: WkH. -/
import Derived.Test.YtijdeggmmpfjeaaGreatDoorA4
set_option linter.unusedSimpArgs false
set_option linter.unusedVariables false
set_option linter.unusedSectionVars false
namespace Go.Am
open Go Go.Proofs Go.RowKit Go.Pu
set_option maxRecDepth 100000
def hd8 (s : List UInt8) : Nat := (s.head?.getD 0).toNat
def kindR (s : List UInt8) : Nat × Int := if s = [] then (0, 4) else if hd8 s = 32 then (0, 4) else if hd8 s = 10 then (0, 4) else if hd8 s = 37 then (0, 4) else if (tokR s).1 = 0 then (0, 4) else if (tokR s).2 = s then ((tokR s).1, 0) else (0, 4)
theorem u8l (a : UInt8) (n : Nat) (hn : n < 256) : ((a.toNat : Int) = (n : Int)) ↔ a = UInt8.ofNat n := by
  constructor
  · intro h
    refine UInt8.toNat_inj.1 ?_
    rw [UInt8.toNat_ofNat_of_lt' hn]; omega
  · rintro rfl
    rw [UInt8.toNat_ofNat_of_lt' hn]
set_option maxHeartbeats 4000000 in
theorem sem173 (s : List UInt8) (hl : s.length ≤ 1000000) (h : Heap) : CSem Tryz.prog 173 [.str s] h (.tuple [.int .u8 ((kindR s).1 : Int), .int .i64 (kindR s).2]) h := by
  refine CSem.pure ?_ (RenVs.plain rfl) (RenV.tuple (RenVs.plain rfl)) h
  cases s with
  | nil =>
    refine CSem.into Tryz.func173 rfl (by decide) Tryz.ntmps173 rfl rfl rfl ?_
    dsimp only
    repeat' (first
     | with_reducible refine RS.seq ?_
     | with_reducible refine RS.goL ?_
     | with_reducible refine RO.nil ?_
     | with_reducible refine ThenS.n ?_
     | with_reducible refine ThenS.r ?_
     | with_reducible refine RS.ret ?_
     | ((with_reducible refine RS.condT ?hb ?_); (case hb => exact rfl))
     | ((with_reducible refine' RO.skip ?hw ?hp ?_); (case hw => exact rfl); (case hp => exact rfl))
     | (((with_reducible refine' RO.eqs exts_ok ?hw ?hx ?hy ?hT ?hF (fun hc => ?_) (fun hc => ?_)); (case hw | hx | hy | hT | hF => exact rfl)) <;> try (exfalso; simp at hc; done))
     | ((with_reducible refine' RO.step ?hw ?ho ?hp ?_); (case hw => exact rfl); (case ho => exact OSem.val exts_ok rfl); (case hp => exact rfl))
     | fail)
    exact ⟨rfl, _, rfl, [], ⟨rfl, rfl, rfl, True.intro⟩, RenV.of_eq rfl (RenV.tuple (RenVs.plain rfl))⟩
  | cons c s =>
    have hc0 : (c :: s)[0]? = some c := rfl
    have tk := fun h => sem194 (c :: s) 0 (by simp) hl h
    rw [List.drop_zero] at tk
    have hh : hd8 (c :: s) = c.toNat := rfl
    refine CSem.into Tryz.func173 rfl (by decide) Tryz.ntmps173 rfl rfl rfl ?_
    dsimp only
    repeat' (first
     | with_reducible refine RS.seq ?_
     | with_reducible refine RS.goL ?_
     | with_reducible refine RO.nil ?_
     | with_reducible refine ThenS.n ?_
     | with_reducible refine ThenS.r ?_
     | with_reducible refine RS.skip ?_
     | with_reducible refine RS.ret ?_
     | ((with_reducible refine RS.condT ?hb ?_); (case hb => exact rfl))
     | ((with_reducible refine RS.condF ?hb ?_); (case hb => exact rfl))
     | ((with_reducible refine' RO.fn (f := 194) exts_ok ?hw ?ha ?hf ?hs ?hp ?_); (case hw | ha | hf => exact rfl); (case hs => exact tk _); (case hp => exact rfl))
     | ((with_reducible refine' RO.skip ?hw ?hp ?_); (case hw => exact rfl); (case hp => exact rfl))
     | (((with_reducible refine' RO.eqi exts_ok ?hw ?hx ?hy ?hk ?hT ?hF (fun hc => ?_) (fun hc => ?_)); (case hw | hx | hy | hk | hT | hF => exact rfl)) <;> try (exfalso; first | omega | (simp at hc; done)))
     | (((with_reducible refine' RO.eqs exts_ok ?hw ?hx ?hy ?hT ?hF (fun hc => ?_) (fun hc => ?_)); (case hw | hx | hy | hT | hF => exact rfl)) <;> try (exfalso; simp at hc; done))
     | (((with_reducible refine' RO.nes exts_ok ?hw ?hx ?hy ?hT ?hF (fun hc => ?_) (fun hc => ?_)); (case hw | hx | hy | hT | hF => exact rfl)) <;> try (exfalso; simp at hc; done))
     | ((with_reducible refine' RO.idxS exts_ok ?hw ?hx ?hy ?hu ?hb ?hz ?hp ?_); (case hw | hx | hy | hu => exact rfl); (case hb => exact hc0); (case hz => exact rfl); (case hp => exact rfl))
     | ((with_reducible refine' RO.ld1 exts_ok ?hw ?hx ?hu ?hD ?hv ?hp ?_); (case hw | hx | hu | hD => exact rfl); (case hv => exact rfl); (case hp => exact rfl))
     | ((with_reducible refine' RO.step ?hw ?ho ?hp ?_); (case hw => exact rfl); (case ho => (first | exact OSem.val exts_ok rfl | exact OSem.skip exts_ok rfl)); (case hp => exact rfl))
     | fail)
    all_goals refine ⟨rfl, _, rfl, [], ⟨rfl, rfl, rfl, True.intro⟩, RenV.of_eq ?_ (RenV.tuple (RenVs.plain rfl))⟩
    all_goals unfold kindR
    all_goals rw [hh]
    all_goals (repeat' split) <;> first | rfl | contradiction | (exfalso; omega)
def isNm (s : List UInt8) : Bool := decide (kindR s = (1, 0))
theorem isNm_iff (s : List UInt8) : isNm s = (decide ((kindR s).2 = 0) && decide ((kindR s).1 = 1)) := by
  unfold isNm
  rcases kindR s with ⟨a, b⟩
  rw [Bool.eq_iff_iff]
  simp [and_comm]
def refFields (x : Nd) : Bool := textOk isNm (namedK x.k) x.t && (numK x.k x.n && (decide (0 ≤ x.a) && decide (x.a ≤ 2500)))
set_option maxHeartbeats 4000000 in
theorem sem111 (x : Nd) (hk : x.k < 256) (hl : x.t.length ≤ 1000000) (h : Heap) : CSem Tryz.prog 111 [.agg (rowN x)] h (.bool (refFields x)) h := by
  refine CSem.pure ?_ (RenVs.cons (RenV.agg (RenVs.plain rfl)) RenVs.nil) (RenV.plain rfl) h
  refine CSem.into Tryz.func111 rfl (by decide) Tryz.ntmps111 rfl rfl rfl ?_
  dsimp only [rowN]
  have hnm := isNm_iff x.t
  repeat' (first
   | with_reducible refine RS.seq ?_
   | with_reducible refine RS.goL ?_
   | with_reducible refine RO.nil ?_
   | with_reducible refine ThenS.n ?_
   | with_reducible refine RS.block ?_
   | with_reducible refine InB.n ?_
   | with_reducible refine InB.r ?_
   | with_reducible refine ThenS.r ?_
   | with_reducible refine RS.skip ?_
   | with_reducible refine RS.ret ?_
   | ((with_reducible refine RS.condT ?hb ?_); (case hb => exact rfl))
   | ((with_reducible refine RS.condF ?hb ?_); (case hb => exact rfl))
   | ((with_reducible refine' RO.fn (f := 173) exts_ok ?hw ?ha ?hf ?hs ?hp ?_); (case hw | ha | hf => exact rfl); (case hs => exact sem173 _ hl _); (case hp => exact rfl))
   | ((with_reducible refine' RO.fnB (f := 174) exts_ok ?hw ?ha ?hf ?hs ?hT ?hF (fun hc => ?_) (fun hc => ?_)); (case hw | ha | hf => exact rfl); (case hs => exact fn174 hk _); (case hT | hF => exact rfl))
   | (((with_reducible refine' RO.fnD (f := 84) exts_ok ?hw ?ha ?hf ?hs ?hT ?hF (fun hc => ?_) (fun hc => ?_)); (case hw | ha | hf => exact rfl); (case hs => exact sem84 _ _ _ _); (case hT | hF => exact rfl)) <;> try (exfalso; first | omega | (simp at hc; done)))
   | ((with_reducible refine' RO.skip ?hw ?hp ?_); (case hw => exact rfl); (case hp => exact rfl))
   | (((with_reducible refine' RO.eqi exts_ok ?hw ?hx ?hy ?hk ?hT ?hF (fun hc => ?_) (fun hc => ?_)); (case hw | hx | hy | hk | hT | hF => exact rfl)) <;> try (exfalso; first | omega | (simp at hc; done)))
   | (((with_reducible refine' RO.nei exts_ok ?hw ?hx ?hy ?hk ?hT ?hF (fun hc => ?_) (fun hc => ?_)); (case hw | hx | hy | hk | hT | hF => exact rfl)) <;> try (exfalso; first | omega | (simp at hc; done)))
   | (((with_reducible refine' RO.nes exts_ok ?hw ?hx ?hy ?hT ?hF (fun hc => ?_) (fun hc => ?_)); (case hw | hx | hy | hT | hF => exact rfl)) <;> try (exfalso; simp at hc; done))
   | ((with_reducible refine' RO.ld1 exts_ok ?hw ?hx ?hu ?hD ?hv ?hp ?_); (case hw | hx | hu | hD => exact rfl); (case hv => exact rfl); (case hp => exact rfl))
   | ((with_reducible refine' RO.step ?hw ?ho ?hp ?_); (case hw => exact rfl); (case ho => exact OSem.val exts_ok rfl); (case hp => exact rfl))
   | fail)
  all_goals refine ⟨rfl, _, rfl, [], by (refine ⟨rfl, rfl, rfl, ?_⟩; repeat' (first | exact True.intro | refine And.intro ?_ ?_ | exact RenO.none | exact RenO.cells (RenVs.plain rfl) | exact RenO.ro (RenVs.plain (cellsN_plain _)) | exact RenO.cells (RenVs.plain (cellsN_plain _)) | exact RenO.cells (RenVs.plain (cellsI_plain _)) | exact RenO.cells (RenVs.plain (cellsZ_plain _)) | exact RenO.cells (RenVs.cons (RenV.slice rfl) RenVs.nil) | exact RenO.iter | exact RenO.cells (RenVs.plain (rowN_plain _)))), RenV.eq ?_ rfl⟩
  all_goals
    have k62 : ((x.k : Int) = 62) ↔ x.k = 62 := (by omega)
    have k5 : ((x.k : Int) = 5) ↔ x.k = 5 := (by omega)
    have k46 : ((x.k : Int) = 46) ↔ x.k = 46 := (by omega)
    have k1 : (((kindR x.t).1 : Int) = 1) ↔ (kindR x.t).1 = 1 := (by omega)
    unfold refFields textOk numK
    rw [hnm]
    clear hnm
    simp_all [afinish]
  all_goals omega
end Go.Am
