/- Part of the proof: WkC. -/
import Derived.Test.YtijdeggmmpfjeaaGreatDoorA1
set_option linter.unusedSimpArgs false
set_option linter.unusedVariables false
set_option linter.unusedSectionVars false
namespace Go.Am
open Go Go.Proofs Go.RowKit Go.Pu
set_option maxRecDepth 100000
def listH (ns : List Nd) (l : List Nat) : Heap := ⟨.node (some (.ro 50 5 (cellsN ns))) (.node (some (.ro 3 1 (cellsI l))) .leaf .leaf) .leaf, 2⟩
theorem letters_snoc {f : Nat → UInt8} {ns : List Nd} {l : List Nat} {x j : Nat} {y : Nd} (hj : l[x]? = some j) (hy : ns[j]? = some y) : lettersOf f ns (l.take (x + 1)) = lettersOf f ns (l.take x) ++ [f y.k] := by
  have hx := (List.getElem?_eq_some_iff.1 hj)
  obtain ⟨h1, h2⟩ := hx
  rw [List.take_succ_eq_append_getElem h1, h2]
  simp [lettersOf, kindAt, hy]
set_option maxHeartbeats 1000000 in
theorem sem110 (ns : List Nd) (hk : ∀ x ∈ ns, x.k < 256) (l : List Nat) (hl : l.length ≤ 700) (hl2 : ∀ j ∈ l, j < ns.length) : CSem Tryz.prog 110 [.agg [.slice 0 0 ns.length 5], .slice 1 0 l.length 1] (listH ns l) (.str (lettersOf sortK ns l)) (listH ns l) := by
  refine CSem.into Tryz.func110 rfl (by decide) Tryz.ntmps110 rfl rfl rfl ?_
  dsimp only [listH]
  repeat' (first
   | refine S0 ?_
   | (refine S2 ?_ ?_) <;> intro hc <;> try (exfalso; first | omega | (simp at hc; done))
   | refine St ?_
   | fail)
  refine RS.loop (σ := Nat) (fun x => x ≤ l.length) (fun x => [(1, .slice 1 0 l.length 1), (2, .ptr 2 0), (5, .str (lettersOf sortK ns (l.take x))), (6, .int .i64 (x : Int))]) (fun _ => ⟨.node (some (.ro 50 5 (cellsN ns))) (.node (some (.ro 3 1 (cellsI l))) .leaf .leaf) (.node (some (.cells 26 1 [.slice 0 0 ns.length 5] true)) .leaf .leaf), 3⟩) (fun x => l.length - x) 0 (Nat.zero_le _) ?lay ?round
  case lay => exact ⟨[0, 1, 2], ⟨rfl, rfl, rfl, RenO.ro (RenVs.plain (cellsN_plain _)), RenO.ro (RenVs.plain (cellsI_plain _)), RenO.cells (RenVs.cons (RenV.slice rfl) RenVs.nil), True.intro⟩, by (repeat' (first | exact True.intro | refine And.intro ?_ ?_ | exact ⟨_, rfl, RenV.plain rfl⟩ | exact ⟨_, rfl, RenV.slice rfl⟩ | exact ⟨_, rfl, RenV.ptr rfl⟩ | exact ⟨_, rfl, RenV.nilslice⟩))⟩
  case round =>
    intro x hx
    refine ⟨_, rfl, ?_⟩
    by_cases hlt : x < l.length
    · obtain ⟨j, hj⟩ : ∃ j, l[x]? = some j := ⟨l[x], by simp [hlt]⟩
      have hjl := hl2 j (List.mem_of_getElem? hj)
      obtain ⟨y, hy⟩ : ∃ y, ns[j]? = some y := ⟨ns[j], by simp [hjl]⟩
      have hyk := hk y (List.mem_of_getElem? hy)
      have hlen : (lettersOf sortK ns (l.take x)).length = x := by simp [lettersOf]; omega
      have hsn := letters_snoc (f := sortK) hj hy
      repeat' (first
       | refine S0 ?_
       | ((with_reducible refine' RS.drawLM mixed [(5, [.int .u8 ((sortK y.k).toNat : Int)])] ?hb ?hg ?_); (case hb => exact rfl); (case hg => exact rfl))
       | refine Sc (fn38 hyk _) ?_
       | ((with_reducible refine' RQ.step ?hw ?ho ?hp ?_); (case hw => exact rfl); (case ho => exact OSem.strB (bs := [sortK y.k]) rfl rfl rfl rfl rfl rfl); (case hp => exact rfl))
       | (refine S2 ?_ ?_) <;> intro hc <;> try (exfalso; first | omega | (simp at hc; done))
       | refine Sf hj ?_
       | refine Sf hy ?_
       | refine St ?_
       | fail)
      refine Rnd.n (x + 1) [0, 1, 2] (by omega) (by omega) ⟨rfl, rfl, rfl, RenO.ro (RenVs.plain (cellsN_plain _)), RenO.ro (RenVs.plain (cellsI_plain _)), RenO.cells (RenVs.cons (RenV.slice rfl) RenVs.nil), True.intro⟩ ?_
      exact ⟨⟨_, rfl, RenV.slice rfl⟩, ⟨_, rfl, RenV.ptr rfl⟩, ⟨_, rfl, RenV.eq (by rw [hsn]) rfl⟩, ⟨_, rfl, RenV.eq (by simp) rfl⟩, True.intro⟩
    · have hxe : x = l.length := by omega
      subst hxe
      repeat' (first
       | refine S0 ?_
       | (refine S2 ?_ ?_) <;> intro hc <;> try (exfalso; first | omega | (simp at hc; done))
       | refine St ?_
       | fail)
      refine ⟨rfl, _, rfl, [0, 1], ⟨rfl, rfl, rfl, RenO.ro (RenVs.plain (cellsN_plain _)), RenO.ro (RenVs.plain (cellsI_plain _)), True.intro⟩, RenV.eq (by simp [afinish]) rfl⟩
set_option maxHeartbeats 1000000 in
theorem sem110n (ns : List Nd) : CSem Tryz.prog 110 [.agg [.slice 0 0 ns.length 5], .nilslice] (nodesH ns) (.str []) (nodesH ns) := by
  refine CSem.into Tryz.func110 rfl (by decide) Tryz.ntmps110 rfl rfl rfl ?_
  dsimp only [nodesH]
  repeat' (first
   | refine S0 ?_
   | (refine S2 ?_ ?_) <;> intro hc <;> try (exfalso; first | omega | (simp at hc; done))
   | refine St ?_
   | fail)
  refine RS.loop (σ := Unit) (fun _ => True) (fun _ => [(1, .nilslice), (5, .str []), (6, .int .i64 0)]) (fun _ => nodesH ns) (fun _ => 0) () True.intro ⟨[0], by (refine ⟨rfl, rfl, rfl, ?_⟩; repeat' (first | exact True.intro | refine And.intro ?_ ?_ | exact RenO.none | exact RenO.cells (RenVs.plain rfl) | exact RenO.ro (RenVs.plain (cellsN_plain _)) | exact RenO.cells (RenVs.plain (cellsN_plain _)) | exact RenO.cells (RenVs.plain (cellsI_plain _)) | exact RenO.cells (RenVs.plain (cellsZ_plain _)) | exact RenO.cells (RenVs.cons (RenV.slice rfl) RenVs.nil) | exact RenO.iter | exact RenO.cells (RenVs.plain (rowN_plain _)))), by (repeat' (first | exact True.intro | refine And.intro ?_ ?_ | exact ⟨_, rfl, RenV.plain rfl⟩ | exact ⟨_, rfl, RenV.slice rfl⟩ | exact ⟨_, rfl, RenV.ptr rfl⟩ | exact ⟨_, rfl, RenV.nilslice⟩))⟩ ?round
  intro x _
  refine ⟨_, rfl, ?_⟩
  dsimp only [nodesH]
  repeat' (first
   | refine S0 ?_
   | (refine S2 ?_ ?_) <;> intro hc <;> try (exfalso; first | omega | (simp at hc; done))
   | refine St ?_
   | fail)
  exact ⟨rfl, _, rfl, [0], by (refine ⟨rfl, rfl, rfl, ?_⟩; repeat' (first | exact True.intro | refine And.intro ?_ ?_ | exact RenO.none | exact RenO.cells (RenVs.plain rfl) | exact RenO.ro (RenVs.plain (cellsN_plain _)) | exact RenO.cells (RenVs.plain (cellsN_plain _)) | exact RenO.cells (RenVs.plain (cellsI_plain _)) | exact RenO.cells (RenVs.plain (cellsZ_plain _)) | exact RenO.cells (RenVs.cons (RenV.slice rfl) RenVs.nil) | exact RenO.iter | exact RenO.cells (RenVs.plain (rowN_plain _)))), RenV.plain rfl⟩
theorem at110 {ns : List Nd} (hk : ∀ x ∈ ns, x.k < 256) {l : List Nat} (hl : l.length ≤ 700) (hl2 : ∀ j ∈ l, j < ns.length) {h : Heap} {i j : Nat} (hi : Nat.blt i h.next = true) (ht : tells (h.objs.get i) (cellsN ns)) (hj : Nat.blt j h.next = true) (htj : tells (h.objs.get j) (cellsI l)) : CSem Tryz.prog 110 [.agg [.slice i 0 ns.length 5], .slice j 0 l.length 1] h (.str (lettersOf sortK ns l)) h :=
  CSem.up (sem110 ns hk l hl hl2) [i, j] [] rfl (by simp only [List.all_cons, hi, hj, List.all_nil, Bool.and_true]) ⟨⟨cellsN_plain ns, ht⟩, ⟨cellsI_plain l, htj⟩, True.intro⟩ (RenVs.cons (RenV.agg (RenVs.cons (RenV.slice rfl) RenVs.nil)) (RenVs.cons (RenV.slice rfl) RenVs.nil)) True.intro rfl rfl (RenV.plain rfl)
theorem at110n {ns : List Nd} {h : Heap} {i : Nat} (hi : Nat.blt i h.next = true) (ht : tells (h.objs.get i) (cellsN ns)) : CSem Tryz.prog 110 [.agg [.slice i 0 ns.length 5], .nilslice] h (.str []) h :=
  CSem.upN (sem110n ns) hi ht (RenVs.cons (RenV.agg (RenVs.cons (RenV.slice rfl) RenVs.nil)) (RenVs.plain rfl)) (RenV.plain rfl)
theorem at40 {ns : List Nd} (hn : ns.length ≤ 700) (hb : ∀ x ∈ ns, -9223372036854775808 ≤ x.s ∧ x.s < 9223372036854775808) {node : Nat} (hi : node < ns.length) {l : List Nat} (hr : rkOf (sizes ns) node = some l) {h h' : Heap} {i : Nat} (j : Nat) (hj : h.next = j) (hi' : Nat.blt i h.next = true) (ht : tells (h.objs.get i) (cellsN ns)) (hadd : addK l h = some h') : CSem Tryz.prog 40 [.agg [.slice i 0 ns.length 5], .int .i64 (node : Int)] h (.tuple [madeV j l, .bool true]) h' := by
  subst hj
  rw [← addK_eq] at hadd
  have c := sem40 ns hn hb node hi
  rw [hr] at c
  refine CSem.upK (l := l) c hi' ht (RenVs.cons (RenV.agg (RenVs.cons (RenV.slice rfl) RenVs.nil)) (RenVs.plain rfl)) hadd ?_
  cases l with
  | nil => exact RenV.tuple (RenVs.plain rfl)
  | cons a l => exact RenV.tuple (RenVs.cons (RenV.slice rfl) (RenVs.plain rfl))
theorem at40n {ns : List Nd} (hn : ns.length ≤ 700) (hb : ∀ x ∈ ns, -9223372036854775808 ≤ x.s ∧ x.s < 9223372036854775808) {node : Nat} (hi : node < ns.length) (hr : rkOf (sizes ns) node = none) {h : Heap} {i : Nat} (hi' : Nat.blt i h.next = true) (ht : tells (h.objs.get i) (cellsN ns)) : CSem Tryz.prog 40 [.agg [.slice i 0 ns.length 5], .int .i64 (node : Int)] h (.tuple [.nilslice, .bool false]) h := by
  have c := sem40 ns hn hb node hi
  rw [hr] at c
  exact CSem.upN c hi' ht (RenVs.cons (RenV.agg (RenVs.cons (RenV.slice rfl) RenVs.nil)) (RenVs.plain rfl)) (RenV.tuple (RenVs.plain rfl))
set_option maxHeartbeats 1000000 in
theorem sem148 (x : Nd) (s : List UInt8) (hs : s.length ≤ 1000000) (h : Heap) : CSem Tryz.prog 148 [.agg (rowN x), .str s] h (.tuple [.int .i64 (mostK x.k s.length).1, .int .i64 (mostK x.k s.length).2]) h := by
  refine CSem.pure ?_ (RenVs.cons (RenV.agg (RenVs.plain rfl)) (RenVs.plain rfl)) (RenV.tuple (RenVs.plain rfl)) h
  refine CSem.into Tryz.func148 rfl (by decide) Tryz.ntmps148 rfl rfl rfl ?_
  dsimp only [rowN]
  repeat' (first
   | refine S0 ?_
   | (refine S2 ?_ ?_) <;> intro hc <;> try (exfalso; first | omega | (simp at hc; done))
   | refine St ?_
   | fail)
  all_goals
    refine ⟨rfl, _, rfl, [], by (refine ⟨rfl, rfl, rfl, ?_⟩; repeat' (first | exact True.intro | refine And.intro ?_ ?_ | exact RenO.none | exact RenO.cells (RenVs.plain rfl) | exact RenO.ro (RenVs.plain (cellsN_plain _)) | exact RenO.cells (RenVs.plain (cellsN_plain _)) | exact RenO.cells (RenVs.plain (cellsI_plain _)) | exact RenO.cells (RenVs.plain (cellsZ_plain _)) | exact RenO.cells (RenVs.cons (RenV.slice rfl) RenVs.nil) | exact RenO.iter | exact RenO.cells (RenVs.plain (rowN_plain _)))), RenV.of_eq ?_ (RenV.tuple (RenVs.plain rfl))⟩
    unfold mostK
    (repeat' split) <;> first | rfl | (exfalso; omega)
def boxH (ns : List Nd) : Heap := ⟨.node (some (.ro 50 5 (cellsN ns))) (.node (some (.cells 26 1 [.slice 0 0 ns.length 5] true)) .leaf .leaf) .leaf, 2⟩
def largeF (ns : List Nd) : Nat → Nat → Int
  | 0, _ => -1
  | f + 1, i => match ns[i]? with
    | some x => if largeOk ns i x = true then largeF ns f (i + 1) else (i : Int)
    | none => -1
theorem rkF_lt {S : List Int} {e : Int} : ∀ (f k : Nat) (l : List Nat), rkF S f k e = some l → ∀ j ∈ l, (j : Int) < e
  | 0, _, l, h, j, hj => by simp only [rkF, Option.some.injEq] at h; subst h; cases hj
  | f + 1, k, l, h, j, hj => by
    unfold rkF at h
    split at h
    · split at h
      · simp only [Option.map_eq_some_iff] at h
        obtain ⟨l', h', rfl⟩ := h
        rcases List.mem_cons.1 hj with rfl | hj
        · assumption
        · exact rkF_lt f _ l' h' j hj
      · cases h
    · simp only [Option.some.injEq] at h; subst h; cases hj
theorem rkF_len {S : List Int} {e : Int} : ∀ (f k : Nat) (l : List Nat), rkF S f k e = some l → l.length ≤ f
  | 0, _, l, h => by simp only [rkF, Option.some.injEq] at h; subst h; exact Nat.le_refl _
  | f + 1, k, l, h => by
    unfold rkF at h
    split at h
    · split at h
      · simp only [Option.map_eq_some_iff] at h
        obtain ⟨l', h', rfl⟩ := h
        have := rkF_len f _ l' h'
        simp; omega
      · cases h
    · simp only [Option.some.injEq] at h; subst h; simp
theorem rkOf_facts {ns : List Nd} {i : Nat} {l : List Nat} (h : rkOf (sizes ns) i = some l) : l.length ≤ ns.length ∧ ∀ j ∈ l, j < ns.length := by
  have hz : (sizes ns).length = ns.length := by simp [sizes]
  unfold rkOf at h
  split at h
  · rename_i hc
    have h1 := rkF_len _ _ _ h
    refine ⟨by omega, fun j hj => ?_⟩
    have := rkF_lt _ _ _ h j hj
    omega
  · cases h
set_option maxHeartbeats 2000000 in
theorem sem79 (ns : List Nd) (hn : ns.length ≤ 700) (hk : ∀ x ∈ ns, x.k < 256) (hb : ∀ x ∈ ns, -9223372036854775808 ≤ x.s ∧ x.s < 9223372036854775808) (hall : ∀ i, i < ns.length → rkOf (sizes ns) i ≠ none) : CSem Tryz.prog 79 [.agg [.slice 0 0 ns.length 5], .int .i64 0] (nodesH ns) (.int .i64 (largeF ns ns.length 0)) (nodesH ns) := by
  refine CSem.into Tryz.func79 rfl (by decide) Tryz.ntmps79 rfl rfl rfl ?_
  dsimp only [nodesH]
  repeat' (first
   | refine S0 ?_
   | (refine S2 ?_ ?_) <;> intro hc <;> try (exfalso; first | omega | (simp at hc; done))
   | refine St ?_
   | fail)
  refine RS.loop (σ := Nat) (fun i => i ≤ ns.length ∧ largeF ns (ns.length - i) i = largeF ns ns.length 0) (fun i => [(2, .ptr 1 0), (5, .int .i64 (i : Int))]) (fun _ => boxH ns) (fun i => ns.length - i) 0 ⟨Nat.zero_le _, rfl⟩ ⟨[0, 1], by (refine ⟨rfl, rfl, rfl, ?_⟩; repeat' (first | exact True.intro | refine And.intro ?_ ?_ | exact RenO.none | exact RenO.cells (RenVs.plain rfl) | exact RenO.ro (RenVs.plain (cellsN_plain _)) | exact RenO.cells (RenVs.plain (cellsN_plain _)) | exact RenO.cells (RenVs.plain (cellsI_plain _)) | exact RenO.cells (RenVs.plain (cellsZ_plain _)) | exact RenO.cells (RenVs.cons (RenV.slice rfl) RenVs.nil) | exact RenO.iter | exact RenO.cells (RenVs.plain (rowN_plain _)))), by (repeat' (first | exact True.intro | refine And.intro ?_ ?_ | exact ⟨_, rfl, RenV.plain rfl⟩ | exact ⟨_, rfl, RenV.slice rfl⟩ | exact ⟨_, rfl, RenV.ptr rfl⟩ | exact ⟨_, rfl, RenV.nilslice⟩))⟩ ?round
  rintro i ⟨hi, hR⟩
  refine ⟨_, rfl, ?_⟩
  dsimp only [boxH]
  by_cases hlt : i < ns.length
  · obtain ⟨x, hx⟩ : ∃ x, ns[i]? = some x := ⟨ns[i], by simp [hlt]⟩
    obtain ⟨l, hl⟩ := Option.ne_none_iff_exists'.1 (hall i hlt)
    obtain ⟨f1, f2⟩ := rkOf_facts hl
    obtain ⟨f, hf⟩ : ∃ f, ns.length - i = f + 1 := ⟨ns.length - i - 1, by omega⟩
    rw [hf, largeF, hx] at hR
    simp only at hR
    have hlen : (lettersOf sortK ns l).length = l.length := by simp [lettersOf]
    have hlo : largeOk ns i x = decide ((mostK x.k (lettersOf sortK ns l).length).1 ≤ (mostK x.k (lettersOf sortK ns l).length).2) := by unfold largeOk; rw [hl]
    have hl0 : lettersOf sortK ns [] = [] := rfl
    by_cases hd : (mostK x.k (lettersOf sortK ns l).length).1 ≤ (mostK x.k (lettersOf sortK ns l).length).2
    · rw [hlo, if_pos (by simpa using hd)] at hR
      cases l with
      | nil =>
        rw [hl0] at hd
        repeat' (first
         | refine S0 ?_
         | refine Sc (at40 hn hb hlt hl 2) ?_
         | refine Sc at110n ?_
         | ((with_reducible refine' RO.fn (f := 148) exts_ok ?hw ?ha ?hf ?hs ?hp ?_); (case hw | ha | hf => exact rfl); (case hs => exact sem148 x _ (by simp) _); (case hp => exact rfl))
         | ((with_reducible refine' RQ.fn (f := 148) exts_ok ?hw ?ha ?hf ?hs ?hp ?_); (case hw | ha | hf => exact rfl); (case hs => exact sem148 x _ (by simp) _); (case hp => exact rfl))
         | (refine S2 ?_ ?_) <;> intro hc <;> try (exfalso; first | omega | (simp at hc; done))
         | refine Sf hx ?_
         | refine St ?_
         | fail)
        refine Rnd.n (i + 1) [0, 1] ⟨by omega, by rw [show ns.length - (i + 1) = f by omega]; exact hR⟩ (by omega) (by (refine ⟨rfl, rfl, rfl, ?_⟩; repeat' (first | exact True.intro | refine And.intro ?_ ?_ | exact RenO.none | exact RenO.cells (RenVs.plain rfl) | exact RenO.ro (RenVs.plain (cellsN_plain _)) | exact RenO.cells (RenVs.plain (cellsN_plain _)) | exact RenO.cells (RenVs.plain (cellsI_plain _)) | exact RenO.cells (RenVs.plain (cellsZ_plain _)) | exact RenO.cells (RenVs.cons (RenV.slice rfl) RenVs.nil) | exact RenO.iter | exact RenO.cells (RenVs.plain (rowN_plain _))))) ?_
        exact ⟨⟨_, rfl, RenV.ptr rfl⟩, ⟨_, rfl, RenV.eq (by simp) rfl⟩, True.intro⟩
      | cons a l =>
        repeat' (first
         | refine S0 ?_
         | refine Sc (at40 hn hb hlt hl 2) ?_
         | ((with_reducible refine' RO.fn (f := 110) exts_ok ?hw ?ha ?hf ?hs ?hp ?_); (case hw | ha | hf => exact rfl); (case hs => exact at110 hk (by omega) f2 rfl rfl rfl rfl); (case hp => exact rfl))
         | ((with_reducible refine' RQ.fn (f := 110) exts_ok ?hw ?ha ?hf ?hs ?hp ?_); (case hw | ha | hf => exact rfl); (case hs => exact at110 hk (by omega) f2 rfl rfl rfl rfl); (case hp => exact rfl))
         | ((with_reducible refine' RO.fn (f := 148) exts_ok ?hw ?ha ?hf ?hs ?hp ?_); (case hw | ha | hf => exact rfl); (case hs => exact sem148 x _ (by rw [hlen]; omega) _); (case hp => exact rfl))
         | ((with_reducible refine' RQ.fn (f := 148) exts_ok ?hw ?ha ?hf ?hs ?hp ?_); (case hw | ha | hf => exact rfl); (case hs => exact sem148 x _ (by rw [hlen]; omega) _); (case hp => exact rfl))
         | (refine S2 ?_ ?_) <;> intro hc <;> try (exfalso; first | omega | (simp at hc; done))
         | refine Sf hx ?_
         | refine St ?_
         | fail)
        refine Rnd.n (i + 1) [0, 1] ⟨by omega, by rw [show ns.length - (i + 1) = f by omega]; exact hR⟩ (by omega) (by (refine ⟨rfl, rfl, rfl, ?_⟩; repeat' (first | exact True.intro | refine And.intro ?_ ?_ | exact RenO.none | exact RenO.cells (RenVs.plain rfl) | exact RenO.ro (RenVs.plain (cellsN_plain _)) | exact RenO.cells (RenVs.plain (cellsN_plain _)) | exact RenO.cells (RenVs.plain (cellsI_plain _)) | exact RenO.cells (RenVs.plain (cellsZ_plain _)) | exact RenO.cells (RenVs.cons (RenV.slice rfl) RenVs.nil) | exact RenO.iter | exact RenO.cells (RenVs.plain (rowN_plain _))))) ?_
        exact ⟨⟨_, rfl, RenV.ptr rfl⟩, ⟨_, rfl, RenV.eq (by simp) rfl⟩, True.intro⟩
    · rw [hlo, if_neg (by simpa using hd)] at hR
      rw [← hR]
      cases l with
      | nil =>
        rw [hl0] at hd
        repeat' (first
         | refine S0 ?_
         | refine Sc (at40 hn hb hlt hl 2) ?_
         | refine Sc at110n ?_
         | ((with_reducible refine' RO.fn (f := 148) exts_ok ?hw ?ha ?hf ?hs ?hp ?_); (case hw | ha | hf => exact rfl); (case hs => exact sem148 x _ (by simp) _); (case hp => exact rfl))
         | ((with_reducible refine' RQ.fn (f := 148) exts_ok ?hw ?ha ?hf ?hs ?hp ?_); (case hw | ha | hf => exact rfl); (case hs => exact sem148 x _ (by simp) _); (case hp => exact rfl))
         | (refine S2 ?_ ?_) <;> intro hc <;> try (exfalso; first | omega | (simp at hc; done))
         | refine Sf hx ?_
         | refine St ?_
         | fail)
        exact ⟨rfl, _, rfl, [0], by (refine ⟨rfl, rfl, rfl, ?_⟩; repeat' (first | exact True.intro | refine And.intro ?_ ?_ | exact RenO.none | exact RenO.cells (RenVs.plain rfl) | exact RenO.ro (RenVs.plain (cellsN_plain _)) | exact RenO.cells (RenVs.plain (cellsN_plain _)) | exact RenO.cells (RenVs.plain (cellsI_plain _)) | exact RenO.cells (RenVs.plain (cellsZ_plain _)) | exact RenO.cells (RenVs.cons (RenV.slice rfl) RenVs.nil) | exact RenO.iter | exact RenO.cells (RenVs.plain (rowN_plain _)))), RenV.plain rfl⟩
      | cons a l =>
        repeat' (first
         | refine S0 ?_
         | refine Sc (at40 hn hb hlt hl 2) ?_
         | ((with_reducible refine' RO.fn (f := 110) exts_ok ?hw ?ha ?hf ?hs ?hp ?_); (case hw | ha | hf => exact rfl); (case hs => exact at110 hk (by omega) f2 rfl rfl rfl rfl); (case hp => exact rfl))
         | ((with_reducible refine' RQ.fn (f := 110) exts_ok ?hw ?ha ?hf ?hs ?hp ?_); (case hw | ha | hf => exact rfl); (case hs => exact at110 hk (by omega) f2 rfl rfl rfl rfl); (case hp => exact rfl))
         | ((with_reducible refine' RO.fn (f := 148) exts_ok ?hw ?ha ?hf ?hs ?hp ?_); (case hw | ha | hf => exact rfl); (case hs => exact sem148 x _ (by rw [hlen]; omega) _); (case hp => exact rfl))
         | ((with_reducible refine' RQ.fn (f := 148) exts_ok ?hw ?ha ?hf ?hs ?hp ?_); (case hw | ha | hf => exact rfl); (case hs => exact sem148 x _ (by rw [hlen]; omega) _); (case hp => exact rfl))
         | (refine S2 ?_ ?_) <;> intro hc <;> try (exfalso; first | omega | (simp at hc; done))
         | refine Sf hx ?_
         | refine St ?_
         | fail)
        exact ⟨rfl, _, rfl, [0], by (refine ⟨rfl, rfl, rfl, ?_⟩; repeat' (first | exact True.intro | refine And.intro ?_ ?_ | exact RenO.none | exact RenO.cells (RenVs.plain rfl) | exact RenO.ro (RenVs.plain (cellsN_plain _)) | exact RenO.cells (RenVs.plain (cellsN_plain _)) | exact RenO.cells (RenVs.plain (cellsI_plain _)) | exact RenO.cells (RenVs.plain (cellsZ_plain _)) | exact RenO.cells (RenVs.cons (RenV.slice rfl) RenVs.nil) | exact RenO.iter | exact RenO.cells (RenVs.plain (rowN_plain _)))), RenV.plain rfl⟩
  · have hie : i = ns.length := by omega
    subst hie
    rw [Nat.sub_self, largeF] at hR
    rw [← hR]
    repeat' (first
     | refine S0 ?_
     | (refine S2 ?_ ?_) <;> intro hc <;> try (exfalso; first | omega | (simp at hc; done))
     | refine St ?_
     | fail)
    exact ⟨rfl, _, rfl, [0], by (refine ⟨rfl, rfl, rfl, ?_⟩; repeat' (first | exact True.intro | refine And.intro ?_ ?_ | exact RenO.none | exact RenO.cells (RenVs.plain rfl) | exact RenO.ro (RenVs.plain (cellsN_plain _)) | exact RenO.cells (RenVs.plain (cellsN_plain _)) | exact RenO.cells (RenVs.plain (cellsI_plain _)) | exact RenO.cells (RenVs.plain (cellsZ_plain _)) | exact RenO.cells (RenVs.cons (RenV.slice rfl) RenVs.nil) | exact RenO.iter | exact RenO.cells (RenVs.plain (rowN_plain _)))), RenV.plain rfl⟩
end Go.Am
