/- Part of the proof: WqG, WqH. -/
import Derived.Test.YtijdeggmmpfjeaaGreatDoorQ3
set_option linter.unusedSimpArgs false
set_option linter.unusedVariables false
set_option linter.unusedSectionVars false
namespace Go.Am
open Go Go.Proofs Go.RowKit Go.Pu
set_option maxRecDepth 1000000
section
variable {P : Program} {N n : Nat} {ops : Array Oper} {l : List Oper} {env env1 : Env} {h h1 : Heap} {Post : APost} {ext : FuncId → Bool} {d : Option Tmp} {ty : TypeId} {pos : String} {af : Array Edge} {gd : Option (Nat × Bool)}
theorem aappend_many {t u : TypeId} {e : TypeId} {inf : TypeInfo} {z : AV} {es j n m k q : Nat} {c olds news : List AV} {ex : Bool} {h1 : Heap} {h' : Heap} {j' : Nat} (ht : P.underlying t = some (.slice e)) (hu : P.underlying u = some (.slice e)) (hi : P.info? e = some inf) (hz : azero P e = some z) (hzl : Nat.beq z.cells.length es = true) (hes : P.cellsOf e = es) (he0 : Nat.blt 0 es = true)
    (hn : acells h q (k * es) (m * es) = some news) (hone : allOne news = true) (hm : m ≠ 0) (hg : h.objs.get j = some (.cells e es c ex)) (ho : acells h j 0 (n * es) = some olds) (hb : n + m ≤ 1000000) (hb2 : (n + m) * inf.bytes ≤ 1000000000) (hp : h.put j none = some h1) (ha : h1.add (.cells e es (olds ++ news) false) = some (j', h')) :
    aappend P h t u (.slice j 0 n es) (.slice q k m es) = some (.slice j' 0 (n + m) es, h') := by
  subst hes
  have h1' : Nat.ble (n + m) 1000000 = true := by simpa using hb
  have h2' : Nat.ble ((n + m) * inf.bytes) 1000000000 = true := by simpa using hb2
  have h3 : elemIs h j e = true := by simp [elemIs, hg]
  have h4 : asource P h u (P.cellsOf e) (.slice q k m (P.cellsOf e)) = some (m, news) := by simp only [asource, hu, hn, Nat.beq_refl, cond_true]
  have h5 : Nat.beq m 0 = false := by rw [beq_iff']; simp [hm]
  simp only [aappend, ht, hi, hz, hzl, he0, cond_true, h4, hone, h3, h1', h2', ho, hp, ha, Nat.beq_refl, h5, cond_false]
theorem aappend_y0 {t u : TypeId} {e : TypeId} {inf : TypeInfo} {z : AV} {es j n : Nat} (ht : P.underlying t = some (.slice e)) (hu : P.underlying u = some (.slice e)) (hi : P.info? e = some inf) (hz : azero P e = some z) (hzl : Nat.beq z.cells.length es = true) (hes : P.cellsOf e = es) (he0 : Nat.blt 0 es = true) :
    aappend P h t u (.slice j 0 n es) .nilslice = some (.slice j 0 n es, h) := by
  subst hes
  have h4 : asource P h u (P.cellsOf e) .nilslice = some (0, []) := by simp only [asource, hu]
  simp only [aappend, ht, hi, hz, hzl, he0, cond_true, h4, allOne]
  rfl
theorem RO.appM (hext : ExtOk P ext) {t u e : TypeId} {x y : Operand} {inf : TypeInfo} {z : AV} {es j n' m k q : Nat} {c olds news : List AV} {ex : Bool} {h2 : Heap} {j' : Nat} (hw : awanted ops (aeval env) (⟨d, .call ⟨.builtin .append, #[x, y], #[t, u]⟩, ty, pos, af, gd⟩ : Oper) = some true) (hx : aeval env x = some (.slice j 0 n' es)) (hy : aeval env y = some (.slice q k m es)) (ht : P.underlying t = some (.slice e)) (hu : P.underlying u = some (.slice e)) (hi : P.info? e = some inf) (hz : azero P e = some z) (hzl : Nat.beq z.cells.length es = true) (hes : P.cellsOf e = es) (he0 : Nat.blt 0 es = true) (hn : acells h q (k * es) (m * es) = some news) (hone : allOne news = true) (hm : m ≠ 0) (hg : h.objs.get j = some (.cells e es c ex)) (ho : acells h j 0 (n' * es) = some olds) (hb : n' + m ≤ 1000000) (hb2 : (n' + m) * inf.bytes ≤ 1000000000) (hq : h.put j none = some h2) (ha : h2.add (.cells e es (olds ++ news) false) = some (j', h1)) (hp : aput env n d (.slice j' 0 (n' + m) es) = some env1) (r : RO P N n ops l env1 h1 Post) : RO P N n ops ((⟨d, .call ⟨.builtin .append, #[x, y], #[t, u]⟩, ty, pos, af, gd⟩ : Oper) :: l) env h Post :=
  RO.step hw (OSem.app hext rfl rfl rfl hx hy (aappend_many ht hu hi hz hzl hes he0 hn hone hm hg ho hb hb2 hq ha)) hp r
theorem RO.appY (hext : ExtOk P ext) {t u e : TypeId} {x y : Operand} {inf : TypeInfo} {z : AV} {es j n' : Nat} (hw : awanted ops (aeval env) (⟨d, .call ⟨.builtin .append, #[x, y], #[t, u]⟩, ty, pos, af, gd⟩ : Oper) = some true) (hx : aeval env x = some (.slice j 0 n' es)) (hy : aeval env y = some .nilslice) (ht : P.underlying t = some (.slice e)) (hu : P.underlying u = some (.slice e)) (hi : P.info? e = some inf) (hz : azero P e = some z) (hzl : Nat.beq z.cells.length es = true) (hes : P.cellsOf e = es) (he0 : Nat.blt 0 es = true) (hp : aput env n d (.slice j 0 n' es) = some env1) (r : RO P N n ops l env1 h Post) : RO P N n ops ((⟨d, .call ⟨.builtin .append, #[x, y], #[t, u]⟩, ty, pos, af, gd⟩ : Oper) :: l) env h Post :=
  RO.step hw (OSem.app hext rfl rfl rfl hx hy (aappend_y0 ht hu hi hz hzl hes he0)) hp r
end
theorem cellsZ_ones : ∀ l : List Int, allOne (cellsZ l) = true
  | [] => rfl
  | x :: l => cellsZ_ones l
theorem tf53 {ns : List Nd} (hl : Lam (sizes ns)) (hn : ns.length ≤ 700) {node : Nat} (hi : node < ns.length) {h : Heap} {i : Nat} (hi' : Nat.blt i h.next = true) (ht : tells (h.objs.get i) (cellsN ns)) : CSem Tryz.prog 53 [.agg [.slice i 0 ns.length 5], .int .i64 (node : Int)] h (.int .i64 (upF (ancF (sizeAt ns) node node))) h :=
  CSem.upN (sem53 ns hl hn node hi) hi' ht (RenVs.cons (RenV.agg1 (RenV.slice rfl)) (RenVs.plain rfl)) (RenV.plain rfl)
def refPH (ns : List Nd) (o : List Int) : Heap := match o with
  | [] => ⟨.node (some (.ro 50 5 (cellsN ns))) (.node (some (.cells 26 1 [.slice 0 0 ns.length 5] true)) .leaf .leaf) .leaf, 2⟩
  | z :: o => ⟨.node (some (.ro 50 5 (cellsN ns))) (.node (some (.cells 26 1 [.slice 0 0 ns.length 5] true)) .leaf .leaf) (.node (some (.cells 3 1 (cellsZ (z :: o)) false)) .leaf .leaf), 3⟩
def refQH (ns : List Nd) (k : List Nat) (o : List Int) : Heap := match o with
  | [] => ⟨.node (some (.ro 50 5 (cellsN ns))) (.node (some (.cells 26 1 [.slice 0 0 ns.length 5] true)) .leaf .leaf) (.node (some (.cells 3 1 (cellsI k) false)) .leaf .leaf), 3⟩
  | z :: o => ⟨.node (some (.ro 50 5 (cellsN ns))) (.node (some (.cells 26 1 [.slice 0 0 ns.length 5] true)) (.node (some (.cells 3 1 (cellsZ (z :: o)) false)) .leaf .leaf) .leaf) (.node (some (.cells 3 1 (cellsI k) false)) .leaf .leaf), 4⟩
structure PS where
  c : Nat
  out : List Int
def outI (idx : Nat) (out : List Int) (i : Nat) : List Int := if idx < i then (idx : Int) :: out else out
theorem nodup_idx {l : List Nat} (h : l.Nodup) {i c : Nat} (hi : l[i]? = some c) : l.idxOf c = i := by
  have hlt := (List.getElem?_eq_some_iff.1 hi).1
  have e := (List.getElem?_eq_some_iff.1 hi).2
  rw [← e]
  exact h.idxOf_getElem i hlt
theorem kidZ_mem {l : List Nat} {c : Nat} (h : c ∈ l) : kidZ l c = (l.idxOf c : Int) := by unfold kidZ; rw [if_pos h]
set_option maxHeartbeats 8000000 in
theorem sem54 (ns : List Nd) (o : NdOk ns) (h0 : checkR ns = 0) (node : Nat) (hi : node < ns.length) : CSem Tryz.prog 54 [.agg [.slice 0 0 ns.length 5], .int .i64 (node : Int)] (nodesH ns) (madeZ 1 (stepsF (sizes ns) node (ancF (sizeAt ns) node node)).reverse) (outZ ns (stepsF (sizes ns) node (ancF (sizeAt ns) node node)).reverse) := by
  have hl := check_lam o h0
  have hn := o.len
  have hb := o.s
  have hz : (sizes ns).length = ns.length := by simp [sizes]
  have hfl : (stepsF (sizes ns) node (ancF (sizeAt ns) node node)).reverse.length ≤ 700 := by
    rw [List.length_reverse, stepsF_len]
    have := ancF_len (sizeAt ns) node node
    omega
  generalize hfin : (stepsF (sizes ns) node (ancF (sizeAt ns) node node)).reverse = fin at hfl
  refine CSem.into Tryz.func54 rfl (by decide) Tryz.ntmps54 rfl rfl rfl ?_
  dsimp only [nodesH]
  repeat' (first
   | refine S0 ?_
   | refine Sc (tf53 hl hn hi) ?_
   | (refine S2 ?_ ?_) <;> intro hc <;> try (exfalso; first | omega | (simp at hc; done))
   | refine St ?_
   | fail)
  refine RS.loop (σ := PS) (fun s => s.c < ns.length ∧ (stepsF (sizes ns) s.c (ancF (sizeAt ns) s.c s.c)).reverse ++ s.out = fin) (fun s => [(1, .int .i64 (s.c : Int)), (2, .ptr 1 0), (5, madeZ 2 s.out), (6, .int .i64 (upF (ancF (sizeAt ns) s.c s.c)))]) (fun s => refPH ns s.out) (fun s => s.c) ⟨node, []⟩ ⟨hi, by simpa using hfin⟩ ⟨[0, 1], ⟨rfl, rfl, rfl, RenO.ro (RenVs.plain (cellsN_plain _)), RenO.cells (RenVs.cons (RenV.slice rfl) RenVs.nil), True.intro⟩, by (repeat' (first | exact True.intro | refine And.intro ?_ ?_ | exact ⟨_, rfl, RenV.plain rfl⟩ | exact ⟨_, rfl, RenV.slice rfl⟩ | exact ⟨_, rfl, RenV.ptr rfl⟩ | exact ⟨_, rfl, RenV.nilslice⟩))⟩ ?round
  rintro ⟨c, out⟩ ⟨hc0, hR⟩
  simp only at hc0 hR
  refine ⟨_, rfl, ?_⟩
  have hol : out.length ≤ 700 := by
    have := congrArg List.length hR
    rw [List.length_append] at this
    omega
  dsimp only
  cases ha : ancF (sizeAt ns) c c with
  | nil =>
    rw [ha] at hR
    have hR : out = fin := hR
    subst hR
    cases out with
    | nil =>
      dsimp only [refPH, madeZ, outZ, upF, nodesH]
      repeat' (first
       | refine S0 ?_
       | (refine S2 ?_ ?_) <;> intro hc <;> try (exfalso; first | omega | (simp at hc; done))
       | refine St ?_
       | fail)
      all_goals first
        | (exfalso; omega)
        | exact ⟨rfl, _, rfl, [0], ⟨rfl, rfl, rfl, RenO.ro (RenVs.plain (cellsN_plain _)), True.intro⟩, RenV.nilslice⟩
    | cons z out =>
      dsimp only [refPH, madeZ, outZ, upF]
      repeat' (first
       | refine S0 ?_
       | (refine S2 ?_ ?_) <;> intro hc <;> try (exfalso; first | omega | (simp at hc; done))
       | refine St ?_
       | fail)
      all_goals first
        | (exfalso; omega)
        | exact ⟨rfl, _, rfl, [0, 2], ⟨rfl, rfl, rfl, RenO.ro (RenVs.plain (cellsN_plain _)), RenO.cells (RenVs.plain (cellsZ_plain _)), True.intro⟩, RenV.slice rfl⟩
  | cons y ys =>
    obtain ⟨hy, hys, hmem⟩ := anc_next hl hc0 ha
    have hyn : y < ns.length := by omega
    have hrk := rkOf_lam hl (i := y) (by omega)
    have hnd := kids_nodup hl y (by omega)
    have hkl := kidsOf_len (sizes ns) y
    have hkz := kidZ_mem hmem
    have hR' : (stepsF (sizes ns) y (ancF (sizeAt ns) y y)).reverse ++ (((kidsOf (sizes ns) y).idxOf c : Int) :: out) = fin := by
      rw [← hR, ha, stepsF, hkz, ← hys]
      simp
    have hix : (kidsOf (sizes ns) y).idxOf c < (kidsOf (sizes ns) y).length := List.idxOf_lt_length_iff.2 hmem
    generalize hix0 : (kidsOf (sizes ns) y).idxOf c = idx at hR' hix
    have hkx : (kidsOf (sizes ns) y)[idx]? = some c := by
      rw [← hix0, List.getElem?_eq_getElem (by omega)]
      simp
    dsimp only [upF]
    cases hk : kidsOf (sizes ns) y with
    | nil => rw [hk] at hmem; cases hmem
    | cons b bs =>
      rw [hk] at hrk hnd hkl hix hix0 hkx
      cases out with
      | nil =>
        dsimp only [refPH, madeZ]
        repeat' (first
         | refine S0 ?_
         | refine Sc (at40 hn hb hyn hrk 2) ?_
         | (refine S2 ?_ ?_) <;> intro hc <;> try (exfalso; first | omega | (simp at hc; done))
         | refine St ?_
         | fail)
        have e0 : outI idx [] 0 = [] := rfl
        refine RS.loop (σ := Nat) (fun i => i ≤ (b :: bs).length) (fun i => [(1, .int .i64 (c : Int)), (2, .ptr 1 0), (5, madeZ 3 (outI idx [] i)), (6, .int .i64 (y : Int)), (7, .slice 2 0 (b :: bs).length 1), (9, .int .i64 (i : Int))]) (fun i => refQH ns (b :: bs) (outI idx [] i)) (fun i => (b :: bs).length - i) 0 (Nat.zero_le _) ⟨[0, 1, 2], ⟨rfl, rfl, rfl, RenO.ro (RenVs.plain (cellsN_plain _)), RenO.cells (RenVs.cons (RenV.slice rfl) RenVs.nil), RenO.cells (RenVs.plain (cellsI_plain _)), True.intro⟩, ⟨⟨_, rfl, RenV.plain rfl⟩, ⟨_, rfl, RenV.ptr rfl⟩, ⟨_, rfl, RenV.nilslice⟩, ⟨_, rfl, RenV.plain rfl⟩, ⟨_, rfl, RenV.slice rfl⟩, ⟨_, rfl, RenV.plain rfl⟩, True.intro⟩⟩ ?round2
        rintro i hi2
        by_cases hlt : i < (b :: bs).length
        · obtain ⟨k, hki⟩ : ∃ k, (b :: bs)[i]? = some k := ⟨(b :: bs)[i], by rw [List.getElem?_eq_getElem]⟩
          by_cases hie : i = idx
          · have eN : outI idx [] (i + 1) = (idx : Int) :: [] := by unfold outI; rw [if_pos (by omega)]
            have eI : outI idx [] i = [] := by unfold outI; rw [if_neg (by omega)]
            rw [eI]
            refine ⟨_, rfl, ?_⟩
            have hki : (b :: bs)[i]? = some c := by rw [hie]; exact hkx
            subst hie
            dsimp only [refQH, madeZ]
            repeat' (first
             | refine S0 ?_
             | ((with_reducible refine' RO.appY exts_ok ?hw ?hx ?hy ?ht ?hu ?hi ?hz ?hzl ?hes ?he0 ?hp ?_); (case hw | hx | hy | ht | hu | hi | hz | hzl | hes | he0 | hp => exact rfl))
             | ((with_reducible refine' RO.appM exts_ok ?hw ?hx ?hy ?ht ?hu ?hi ?hz ?hzl ?hes ?he0 ?hn ?hone ?hm ?hg ?ho ?hb ?hb2 ?hq ?ha ?hp ?_); (case hw | hx | hy | ht | hu | hi | hz | hzl | hes | he0 => exact rfl); (case hn => exact takeN_all (by (show _ * 1 = _; simp [cellsZ_len]))); (case hone => exact cellsZ_ones _); (case hm => simp); (case hg | ho => exact rfl); (case hb => (simp; omega)); (case hb2 => (show _ * 8 ≤ _; (simp; omega))); (case hq | ha | hp => exact rfl))
             | (refine S2 ?_ ?_) <;> intro hc <;> try (exfalso; first | omega | (simp at hc; done))
             | refine Sf hki ?_
             | refine St ?_
             | fail)
            all_goals first
              | (exfalso; omega)
              | (refine Rnd.n (i + 1) [0, 1, 2, 3] (by show i + 1 ≤ (b :: bs).length; omega) (by show (b :: bs).length - (i + 1) < (b :: bs).length - i; omega) (by show Lay _ _ _ (refQH ns (b :: bs) (outI i [] (i + 1))); rw [eN]; exact ⟨rfl, rfl, rfl, RenO.ro (RenVs.plain (cellsN_plain _)), RenO.cells (RenVs.cons (RenV.slice rfl) RenVs.nil), RenO.cells (RenVs.plain (cellsI_plain _)), RenO.less (r := []) (RenVs.plain rfl), True.intro⟩) ?_
                 show HasR _ _ [(1, .int .i64 (c : Int)), (2, .ptr 1 0), (5, madeZ 3 (outI i [] (i + 1))), (6, .int .i64 (y : Int)), (7, .slice 2 0 (b :: bs).length 1), (9, .int .i64 ((i + 1 : Nat) : Int))]
                 rw [eN]
                 exact ⟨⟨_, rfl, RenV.plain rfl⟩, ⟨_, rfl, RenV.ptr rfl⟩, ⟨_, rfl, RenV.slice rfl⟩, ⟨_, rfl, RenV.plain rfl⟩, ⟨_, rfl, RenV.slice rfl⟩, ⟨_, rfl, RenV.eq (by simp) rfl⟩, True.intro⟩)
          · have hkc : k ≠ c := fun e => hie (by rw [← hix0]; exact (nodup_idx hnd (by rw [hki, e])).symm)
            have eN : outI idx [] (i + 1) = outI idx [] i := by
              unfold outI
              by_cases h : idx < i
              · rw [if_pos h, if_pos (by omega)]
              · rw [if_neg h, if_neg (by omega)]
            cases hoi : outI idx [] i with
            | nil =>
              refine ⟨_, rfl, ?_⟩
              rw [hoi] at eN
              dsimp only [refQH, madeZ]
              repeat' (first
               | refine S0 ?_
               | (refine S2 ?_ ?_) <;> intro hc <;> try (exfalso; first | omega | (simp at hc; done))
               | refine Sf hki ?_
               | refine St ?_
               | fail)
              all_goals first
                | (exfalso; omega)
                | (refine Rnd.n (i + 1) [0, 1, 2] (by show i + 1 ≤ (b :: bs).length; omega) (by show (b :: bs).length - (i + 1) < (b :: bs).length - i; omega) (by show Lay _ _ _ (refQH ns (b :: bs) (outI idx [] (i + 1))); rw [eN]; exact ⟨rfl, rfl, rfl, RenO.ro (RenVs.plain (cellsN_plain _)), RenO.cells (RenVs.cons (RenV.slice rfl) RenVs.nil), RenO.cells (RenVs.plain (cellsI_plain _)), True.intro⟩) ?_
                   show HasR _ _ [(1, .int .i64 (c : Int)), (2, .ptr 1 0), (5, madeZ 3 (outI idx [] (i + 1))), (6, .int .i64 (y : Int)), (7, .slice 2 0 (b :: bs).length 1), (9, .int .i64 ((i + 1 : Nat) : Int))]
                   rw [eN]
                   exact ⟨⟨_, rfl, RenV.plain rfl⟩, ⟨_, rfl, RenV.ptr rfl⟩, ⟨_, rfl, RenV.nilslice⟩, ⟨_, rfl, RenV.plain rfl⟩, ⟨_, rfl, RenV.slice rfl⟩, ⟨_, rfl, RenV.eq (by simp) rfl⟩, True.intro⟩)
            | cons z' o' =>
              refine ⟨_, rfl, ?_⟩
              rw [hoi] at eN
              dsimp only [refQH, madeZ]
              repeat' (first
               | refine S0 ?_
               | (refine S2 ?_ ?_) <;> intro hc <;> try (exfalso; first | omega | (simp at hc; done))
               | refine Sf hki ?_
               | refine St ?_
               | fail)
              all_goals first
                | (exfalso; omega)
                | (refine Rnd.n (i + 1) [0, 1, 2, 3] (by show i + 1 ≤ (b :: bs).length; omega) (by show (b :: bs).length - (i + 1) < (b :: bs).length - i; omega) (by show Lay _ _ _ (refQH ns (b :: bs) (outI idx [] (i + 1))); rw [eN]; exact ⟨rfl, rfl, rfl, RenO.ro (RenVs.plain (cellsN_plain _)), RenO.cells (RenVs.cons (RenV.slice rfl) RenVs.nil), RenO.cells (RenVs.plain (cellsI_plain _)), RenO.cells (RenVs.plain (cellsZ_plain _)), True.intro⟩) ?_
                   show HasR _ _ [(1, .int .i64 (c : Int)), (2, .ptr 1 0), (5, madeZ 3 (outI idx [] (i + 1))), (6, .int .i64 (y : Int)), (7, .slice 2 0 (b :: bs).length 1), (9, .int .i64 ((i + 1 : Nat) : Int))]
                   rw [eN]
                   exact ⟨⟨_, rfl, RenV.plain rfl⟩, ⟨_, rfl, RenV.ptr rfl⟩, ⟨_, rfl, RenV.slice rfl⟩, ⟨_, rfl, RenV.plain rfl⟩, ⟨_, rfl, RenV.slice rfl⟩, ⟨_, rfl, RenV.eq (by simp) rfl⟩, True.intro⟩)
        · have eI : outI idx [] i = (idx : Int) :: [] := by unfold outI; rw [if_pos (by omega)]
          rw [eI]
          refine ⟨_, rfl, ?_⟩
          have hie : i = (b :: bs).length := by omega
          subst hie
          dsimp only [refQH, madeZ]
          repeat' (first
           | refine S0 ?_
           | refine Sc (tf53 hl hn hyn) ?_
           | (refine S2 ?_ ?_) <;> intro hc <;> try (exfalso; first | omega | (simp at hc; done))
           | refine St ?_
           | fail)
          all_goals first
            | (exfalso; omega)
            | (refine Rnd.n ⟨y, (idx : Int) :: []⟩ [0, 1, 3] ⟨hyn, hR'⟩ hy ⟨rfl, rfl, rfl, RenO.ro (RenVs.plain (cellsN_plain _)), RenO.cells (RenVs.cons (RenV.slice rfl) RenVs.nil), RenO.cells (RenVs.plain (cellsZ_plain _)), True.intro⟩ ?_
               exact ⟨⟨_, rfl, RenV.plain rfl⟩, ⟨_, rfl, RenV.ptr rfl⟩, ⟨_, rfl, RenV.slice rfl⟩, ⟨_, rfl, RenV.plain rfl⟩, True.intro⟩)
      | cons z out =>
        simp only [List.length_cons] at hol
        dsimp only [refPH, madeZ]
        repeat' (first
         | refine S0 ?_
         | refine Sc (at40 hn hb hyn hrk 3) ?_
         | (refine S2 ?_ ?_) <;> intro hc <;> try (exfalso; first | omega | (simp at hc; done))
         | refine St ?_
         | fail)
        have e0 : outI idx (z :: out) 0 = (z :: out) := rfl
        refine RS.loop (σ := Nat) (fun i => i ≤ (b :: bs).length) (fun i => [(1, .int .i64 (c : Int)), (2, .ptr 1 0), (5, madeZ 3 (outI idx (z :: out) i)), (6, .int .i64 (y : Int)), (7, .slice 2 0 (b :: bs).length 1), (9, .int .i64 (i : Int))]) (fun i => refQH ns (b :: bs) (outI idx (z :: out) i)) (fun i => (b :: bs).length - i) 0 (Nat.zero_le _) ⟨[0, 1, 3, 2], ⟨rfl, rfl, rfl, RenO.ro (RenVs.plain (cellsN_plain _)), RenO.cells (RenVs.cons (RenV.slice rfl) RenVs.nil), RenO.cells (RenVs.plain (cellsI_plain _)), RenO.cells (RenVs.plain (cellsZ_plain _)), True.intro⟩, ⟨⟨_, rfl, RenV.plain rfl⟩, ⟨_, rfl, RenV.ptr rfl⟩, ⟨_, rfl, RenV.slice rfl⟩, ⟨_, rfl, RenV.plain rfl⟩, ⟨_, rfl, RenV.slice rfl⟩, ⟨_, rfl, RenV.plain rfl⟩, True.intro⟩⟩ ?round3
        rintro i hi2
        by_cases hlt : i < (b :: bs).length
        · obtain ⟨k, hki⟩ : ∃ k, (b :: bs)[i]? = some k := ⟨(b :: bs)[i], by rw [List.getElem?_eq_getElem]⟩
          by_cases hie : i = idx
          · have eN : outI idx (z :: out) (i + 1) = (idx : Int) :: (z :: out) := by unfold outI; rw [if_pos (by omega)]
            have eI : outI idx (z :: out) i = (z :: out) := by unfold outI; rw [if_neg (by omega)]
            rw [eI]
            refine ⟨_, rfl, ?_⟩
            have hki : (b :: bs)[i]? = some c := by rw [hie]; exact hkx
            subst hie
            dsimp only [refQH, madeZ]
            repeat' (first
             | refine S0 ?_
             | ((with_reducible refine' RO.appY exts_ok ?hw ?hx ?hy ?ht ?hu ?hi ?hz ?hzl ?hes ?he0 ?hp ?_); (case hw | hx | hy | ht | hu | hi | hz | hzl | hes | he0 | hp => exact rfl))
             | ((with_reducible refine' RO.appM exts_ok ?hw ?hx ?hy ?ht ?hu ?hi ?hz ?hzl ?hes ?he0 ?hn ?hone ?hm ?hg ?ho ?hb ?hb2 ?hq ?ha ?hp ?_); (case hw | hx | hy | ht | hu | hi | hz | hzl | hes | he0 => exact rfl); (case hn => exact takeN_all (by (show _ * 1 = _; simp [cellsZ_len]))); (case hone => exact cellsZ_ones _); (case hm => simp); (case hg | ho => exact rfl); (case hb => (simp; omega)); (case hb2 => (show _ * 8 ≤ _; (simp; omega))); (case hq | ha | hp => exact rfl))
             | (refine S2 ?_ ?_) <;> intro hc <;> try (exfalso; first | omega | (simp at hc; done))
             | refine Sf hki ?_
             | refine St ?_
             | fail)
            all_goals first
              | (exfalso; omega)
              | (refine Rnd.n (i + 1) [0, 1, 2, 5] (by show i + 1 ≤ (b :: bs).length; omega) (by show (b :: bs).length - (i + 1) < (b :: bs).length - i; omega) (by show Lay _ _ _ (refQH ns (b :: bs) (outI i (z :: out) (i + 1))); rw [eN]; exact ⟨rfl, rfl, rfl, RenO.ro (RenVs.plain (cellsN_plain _)), RenO.cells (RenVs.cons (RenV.slice rfl) RenVs.nil), RenO.cells (RenVs.plain (cellsI_plain _)), RenO.cells (RenVs.plain (cellsZ_plain (_ :: _))), True.intro⟩) ?_
                 show HasR _ _ [(1, .int .i64 (c : Int)), (2, .ptr 1 0), (5, madeZ 3 (outI i (z :: out) (i + 1))), (6, .int .i64 (y : Int)), (7, .slice 2 0 (b :: bs).length 1), (9, .int .i64 ((i + 1 : Nat) : Int))]
                 rw [eN]
                 exact ⟨⟨_, rfl, RenV.plain rfl⟩, ⟨_, rfl, RenV.ptr rfl⟩, ⟨_, rfl, RenV.sliceL rfl (by simp; omega)⟩, ⟨_, rfl, RenV.plain rfl⟩, ⟨_, rfl, RenV.slice rfl⟩, ⟨_, rfl, RenV.eq (by simp) rfl⟩, True.intro⟩)
          · have hkc : k ≠ c := fun e => hie (by rw [← hix0]; exact (nodup_idx hnd (by rw [hki, e])).symm)
            have eN : outI idx (z :: out) (i + 1) = outI idx (z :: out) i := by
              unfold outI
              by_cases h : idx < i
              · rw [if_pos h, if_pos (by omega)]
              · rw [if_neg h, if_neg (by omega)]
            cases hoi : outI idx (z :: out) i with
            | nil =>
              refine ⟨_, rfl, ?_⟩
              rw [hoi] at eN
              dsimp only [refQH, madeZ]
              repeat' (first
               | refine S0 ?_
               | (refine S2 ?_ ?_) <;> intro hc <;> try (exfalso; first | omega | (simp at hc; done))
               | refine Sf hki ?_
               | refine St ?_
               | fail)
              all_goals first
                | (exfalso; omega)
                | (refine Rnd.n (i + 1) [0, 1, 2] (by show i + 1 ≤ (b :: bs).length; omega) (by show (b :: bs).length - (i + 1) < (b :: bs).length - i; omega) (by show Lay _ _ _ (refQH ns (b :: bs) (outI idx (z :: out) (i + 1))); rw [eN]; exact ⟨rfl, rfl, rfl, RenO.ro (RenVs.plain (cellsN_plain _)), RenO.cells (RenVs.cons (RenV.slice rfl) RenVs.nil), RenO.cells (RenVs.plain (cellsI_plain _)), True.intro⟩) ?_
                   show HasR _ _ [(1, .int .i64 (c : Int)), (2, .ptr 1 0), (5, madeZ 3 (outI idx (z :: out) (i + 1))), (6, .int .i64 (y : Int)), (7, .slice 2 0 (b :: bs).length 1), (9, .int .i64 ((i + 1 : Nat) : Int))]
                   rw [eN]
                   exact ⟨⟨_, rfl, RenV.plain rfl⟩, ⟨_, rfl, RenV.ptr rfl⟩, ⟨_, rfl, RenV.nilslice⟩, ⟨_, rfl, RenV.plain rfl⟩, ⟨_, rfl, RenV.slice rfl⟩, ⟨_, rfl, RenV.eq (by simp) rfl⟩, True.intro⟩)
            | cons z' o' =>
              refine ⟨_, rfl, ?_⟩
              rw [hoi] at eN
              dsimp only [refQH, madeZ]
              repeat' (first
               | refine S0 ?_
               | (refine S2 ?_ ?_) <;> intro hc <;> try (exfalso; first | omega | (simp at hc; done))
               | refine Sf hki ?_
               | refine St ?_
               | fail)
              all_goals first
                | (exfalso; omega)
                | (refine Rnd.n (i + 1) [0, 1, 2, 3] (by show i + 1 ≤ (b :: bs).length; omega) (by show (b :: bs).length - (i + 1) < (b :: bs).length - i; omega) (by show Lay _ _ _ (refQH ns (b :: bs) (outI idx (z :: out) (i + 1))); rw [eN]; exact ⟨rfl, rfl, rfl, RenO.ro (RenVs.plain (cellsN_plain _)), RenO.cells (RenVs.cons (RenV.slice rfl) RenVs.nil), RenO.cells (RenVs.plain (cellsI_plain _)), RenO.cells (RenVs.plain (cellsZ_plain _)), True.intro⟩) ?_
                   show HasR _ _ [(1, .int .i64 (c : Int)), (2, .ptr 1 0), (5, madeZ 3 (outI idx (z :: out) (i + 1))), (6, .int .i64 (y : Int)), (7, .slice 2 0 (b :: bs).length 1), (9, .int .i64 ((i + 1 : Nat) : Int))]
                   rw [eN]
                   exact ⟨⟨_, rfl, RenV.plain rfl⟩, ⟨_, rfl, RenV.ptr rfl⟩, ⟨_, rfl, RenV.slice rfl⟩, ⟨_, rfl, RenV.plain rfl⟩, ⟨_, rfl, RenV.slice rfl⟩, ⟨_, rfl, RenV.eq (by simp) rfl⟩, True.intro⟩)
        · have eI : outI idx (z :: out) i = (idx : Int) :: (z :: out) := by unfold outI; rw [if_pos (by omega)]
          rw [eI]
          refine ⟨_, rfl, ?_⟩
          have hie : i = (b :: bs).length := by omega
          subst hie
          dsimp only [refQH, madeZ]
          repeat' (first
           | refine S0 ?_
           | refine Sc (tf53 hl hn hyn) ?_
           | (refine S2 ?_ ?_) <;> intro hc <;> try (exfalso; first | omega | (simp at hc; done))
           | refine St ?_
           | fail)
          all_goals first
            | (exfalso; omega)
            | (refine Rnd.n ⟨y, (idx : Int) :: (z :: out)⟩ [0, 1, 3] ⟨hyn, hR'⟩ hy ⟨rfl, rfl, rfl, RenO.ro (RenVs.plain (cellsN_plain _)), RenO.cells (RenVs.cons (RenV.slice rfl) RenVs.nil), RenO.cells (RenVs.plain (cellsZ_plain _)), True.intro⟩ ?_
               exact ⟨⟨_, rfl, RenV.plain rfl⟩, ⟨_, rfl, RenV.ptr rfl⟩, ⟨_, rfl, RenV.slice rfl⟩, ⟨_, rfl, RenV.plain rfl⟩, True.intro⟩)
end Go.Am
namespace Go.Am
open Go Go.Proofs Go.RowKit Go.Pu
set_option maxRecDepth 1000000
theorem add_next {h h' : Heap} {o : AObj} {j : Nat} (ha : h.add o = some (j, h')) : j = h.next := by
  rw [Heap.add_eq] at ha
  split at ha
  · simp only [Option.some.injEq, Prod.mk.injEq] at ha
    exact ha.1.symm
  · cases ha
theorem upC1 {f : FuncId} {ns : List Nd} {cs : List AV} {args0 args : List AV} {v0 v : AV} (c : CSem Tryz.prog f args0 (nodesH ns) v0 ⟨.node (some (.ro 50 5 (cellsN ns))) (.node (some (.cells 3 1 cs false)) .leaf .leaf) .leaf, 2⟩) (hp : plains cs = true) {h h' : Heap} {i j : Nat} (hi : Nat.blt i h.next = true) (ht : tells (h.objs.get i) (cellsN ns)) (ha : RenVs [i] args args0)
    (hadd : h.add (.cells 3 1 cs false) = some (j, h')) (hv : RenV [i, j] v v0) : CSem Tryz.prog f args h v h' := by
  have hj := add_next hadd
  refine CSem.up c [i] [⟨3, 1, cs, false⟩] rfl (by simp only [List.all_cons, hi, List.all_nil, Bool.and_true]) ⟨⟨cellsN_plain ns, ht⟩, True.intro⟩ ha ⟨⟨(show T.get (.node (some (AObj.ro 50 5 (cellsN ns))) (.node (some (AObj.cells 3 1 cs false)) .leaf .leaf) .leaf) 1 = _ from rfl), hp⟩, True.intro⟩ rfl ?_ ?_
  · simp only [addAll, hadd]
  · rw [hj] at hv
    exact hv
theorem aN {i : Nat} {n : Nat} {x : AV} (hx : plain1 x = true) : RenVs [i] [.agg [.slice i 0 n 5], x] [.agg [.slice 0 0 n 5], x] := RenVs.cons (RenV.agg1 (RenV.slice rfl)) (RenVs.plain (by simp [plains, hx]))
section
variable {ns : List Nd} {node : Nat} {a : Nat} {l : List Nat} {z : Int} {zs : List Int} {h h' : Heap} {i j : Nat}
theorem t46n (o : NdOk ns) (h0 : checkR ns = 0) (hn : node < ns.length) (hk : kidsOf (sizes ns) node = []) (hi : Nat.blt i h.next = true) (ht : tells (h.objs.get i) (cellsN ns)) : CSem Tryz.prog 46 [.agg [.slice i 0 ns.length 5], .int .i64 (node : Int)] h (.tuple [.nilslice, .int .i64 0]) h := by
  have c := sem46k ns o h0 node hn
  rw [hk] at c
  exact CSem.upN c hi ht (aN rfl) (RenV.tuple (RenVs.plain rfl))
theorem t46c (o : NdOk ns) (h0 : checkR ns = 0) (hn : node < ns.length) (hk : kidsOf (sizes ns) node = a :: l) (hi : Nat.blt i h.next = true) (ht : tells (h.objs.get i) (cellsN ns)) (hadd : h.add (.cells 3 1 (cellsI (a :: l)) false) = some (j, h')) : CSem Tryz.prog 46 [.agg [.slice i 0 ns.length 5], .int .i64 (node : Int)] h (.tuple [.slice j 0 (a :: l).length 1, .int .i64 0]) h' := by
  have c := sem46k ns o h0 node hn
  rw [hk] at c
  exact upC1 c (cellsI_plain _) hi ht (aN rfl) hadd (RenV.tuple (RenVs.cons (RenV.slice rfl) (RenVs.plain rfl)))
theorem t40n (o : NdOk ns) (h0 : checkR ns = 0) (hn : node < ns.length) (hk : kidsOf (sizes ns) node = []) (hi : Nat.blt i h.next = true) (ht : tells (h.objs.get i) (cellsN ns)) : CSem Tryz.prog 40 [.agg [.slice i 0 ns.length 5], .int .i64 (node : Int)] h (.tuple [.nilslice, .bool true]) h := by
  have hz : (sizes ns).length = ns.length := by simp [sizes]
  have c := sem40 ns o.len o.s node hn
  rw [rkOf_lam (check_lam o h0) (by omega), hk] at c
  exact CSem.upN c hi ht (aN rfl) (RenV.tuple (RenVs.plain rfl))
theorem t40c (o : NdOk ns) (h0 : checkR ns = 0) (hn : node < ns.length) (hk : kidsOf (sizes ns) node = a :: l) (hi : Nat.blt i h.next = true) (ht : tells (h.objs.get i) (cellsN ns)) (hadd : h.add (.cells 3 1 (cellsI (a :: l)) false) = some (j, h')) : CSem Tryz.prog 40 [.agg [.slice i 0 ns.length 5], .int .i64 (node : Int)] h (.tuple [.slice j 0 (a :: l).length 1, .bool true]) h' := by
  have hz : (sizes ns).length = ns.length := by simp [sizes]
  have c := sem40 ns o.len o.s node hn
  rw [rkOf_lam (check_lam o h0) (by omega), hk] at c
  exact upC1 c (cellsI_plain _) hi ht (aN rfl) hadd (RenV.tuple (RenVs.cons (RenV.slice rfl) (RenVs.plain rfl)))
def pathOf (ns : List Nd) (node : Nat) : List Int := (stepsF (sizes ns) node (ancF (sizeAt ns) node node)).reverse
theorem t48n (o : NdOk ns) (h0 : checkR ns = 0) (hn : node < ns.length) (hk : pathOf ns node = []) (hi : Nat.blt i h.next = true) (ht : tells (h.objs.get i) (cellsN ns)) : CSem Tryz.prog 48 [.agg [.slice i 0 ns.length 5], .int .i64 (node : Int)] h (.tuple [.nilslice, .int .i64 0]) h := by
  have c := sem48k ns o h0 node hn
  unfold pathOf at hk
  rw [hk] at c
  exact CSem.upN c hi ht (aN rfl) (RenV.tuple (RenVs.plain rfl))
theorem t48c (o : NdOk ns) (h0 : checkR ns = 0) (hn : node < ns.length) (hk : pathOf ns node = z :: zs) (hi : Nat.blt i h.next = true) (ht : tells (h.objs.get i) (cellsN ns)) (hadd : h.add (.cells 3 1 (cellsZ (z :: zs)) false) = some (j, h')) : CSem Tryz.prog 48 [.agg [.slice i 0 ns.length 5], .int .i64 (node : Int)] h (.tuple [.slice j 0 (z :: zs).length 1, .int .i64 0]) h' := by
  have c := sem48k ns o h0 node hn
  unfold pathOf at hk
  rw [hk] at c
  exact upC1 c (cellsZ_plain _) hi ht (aN rfl) hadd (RenV.tuple (RenVs.cons (RenV.slice rfl) (RenVs.plain rfl)))
theorem t54n (o : NdOk ns) (h0 : checkR ns = 0) (hn : node < ns.length) (hk : pathOf ns node = []) (hi : Nat.blt i h.next = true) (ht : tells (h.objs.get i) (cellsN ns)) : CSem Tryz.prog 54 [.agg [.slice i 0 ns.length 5], .int .i64 (node : Int)] h .nilslice h := by
  have c := sem54 ns o h0 node hn
  unfold pathOf at hk
  rw [hk] at c
  exact CSem.upN c hi ht (aN rfl) (RenV.plain rfl)
theorem t54c (o : NdOk ns) (h0 : checkR ns = 0) (hn : node < ns.length) (hk : pathOf ns node = z :: zs) (hi : Nat.blt i h.next = true) (ht : tells (h.objs.get i) (cellsN ns)) (hadd : h.add (.cells 3 1 (cellsZ (z :: zs)) false) = some (j, h')) : CSem Tryz.prog 54 [.agg [.slice i 0 ns.length 5], .int .i64 (node : Int)] h (.slice j 0 (z :: zs).length 1) h' := by
  have c := sem54 ns o h0 node hn
  unfold pathOf at hk
  rw [hk] at c
  exact upC1 c (cellsZ_plain _) hi ht (aN rfl) hadd (RenV.slice rfl)
theorem t47 (o : NdOk ns) (h0 : checkR ns = 0) (hn : node < ns.length) (hi : Nat.blt i h.next = true) (ht : tells (h.objs.get i) (cellsN ns)) : CSem Tryz.prog 47 [.agg [.slice i 0 ns.length 5], .int .i64 (node : Int)] h (.tuple [.int .i64 (upF (ancF (sizeAt ns) node node)), .int .i64 0]) h :=
  CSem.upN (sem47k ns o h0 node hn) hi ht (aN rfl) (RenV.tuple (RenVs.plain rfl))
theorem t53 (o : NdOk ns) (h0 : checkR ns = 0) (hn : node < ns.length) (hi : Nat.blt i h.next = true) (ht : tells (h.objs.get i) (cellsN ns)) : CSem Tryz.prog 53 [.agg [.slice i 0 ns.length 5], .int .i64 (node : Int)] h (.int .i64 (upF (ancF (sizeAt ns) node node))) h := tf53 (check_lam o h0) o.len hn hi ht
theorem i52I (hl : (a :: l).length ≤ 1000) {b : Nat} (hi : Nat.blt i h.next = true) (ht : tells (h.objs.get i) (cellsI (a :: l))) (hj : Nat.blt b h.next = true) (htj : tells (h.objs.get b) (cellsI (a :: l))) : CSem Tryz.prog 52 [.slice i 0 (a :: l).length 1, .slice b 0 (a :: l).length 1] h (.bool true) h :=
  at52 (l := (a :: l).map fun n : Nat => (n : Int)) (by simpa using hl) (by simp) (by simp) hi (by rw [cellsI_Z]; exact ht) hj (by rw [cellsI_Z]; exact htj)
theorem i52Z (hl : (z :: zs).length ≤ 1000) {b : Nat} (hi : Nat.blt i h.next = true) (ht : tells (h.objs.get i) (cellsZ (z :: zs))) (hj : Nat.blt b h.next = true) (htj : tells (h.objs.get b) (cellsZ (z :: zs))) : CSem Tryz.prog 52 [.slice i 0 (z :: zs).length 1, .slice b 0 (z :: zs).length 1] h (.bool true) h :=
  at52 hl rfl rfl hi ht hj htj
end
theorem t46e {ns : List Nd} (o : NdOk ns) {node : Int} (hr : -9223372036854775808 ≤ node ∧ node < 9223372036854775808) (he : findR ns node ≠ 0) {u : AV} {i : Nat} (tu : TF i ns u) {h : Heap} (hi : Nat.blt i h.next = true) (ht : tells (h.objs.get i) (cellsN ns)) : CSem Tryz.prog 46 [.agg [u], .int .i64 node] h (.tuple [.nilslice, .int .i64 (findR ns node)]) h :=
  up1TF (fun u t => sem46e ns o node hr he u t) rfl (RenV.tuple (RenVs.plain rfl)) tu hi ht
theorem t47e {ns : List Nd} (o : NdOk ns) {node : Int} (hr : -9223372036854775808 ≤ node ∧ node < 9223372036854775808) (he : findR ns node ≠ 0) {u : AV} {i : Nat} (tu : TF i ns u) {h : Heap} (hi : Nat.blt i h.next = true) (ht : tells (h.objs.get i) (cellsN ns)) : CSem Tryz.prog 47 [.agg [u], .int .i64 node] h (.tuple [.int .i64 0, .int .i64 (findR ns node)]) h :=
  up1TF (fun u t => sem47e ns o node hr he u t) rfl (RenV.tuple (RenVs.plain rfl)) tu hi ht
theorem t48e {ns : List Nd} (o : NdOk ns) {node : Int} (hr : -9223372036854775808 ≤ node ∧ node < 9223372036854775808) (he : findR ns node ≠ 0) {u : AV} {i : Nat} (tu : TF i ns u) {h : Heap} (hi : Nat.blt i h.next = true) (ht : tells (h.objs.get i) (cellsN ns)) : CSem Tryz.prog 48 [.agg [u], .int .i64 node] h (.tuple [.nilslice, .int .i64 (findR ns node)]) h :=
  up1TF (fun u t => sem48e ns o node hr he u t) rfl (RenV.tuple (RenVs.plain rfl)) tu hi ht
end Go.Am
