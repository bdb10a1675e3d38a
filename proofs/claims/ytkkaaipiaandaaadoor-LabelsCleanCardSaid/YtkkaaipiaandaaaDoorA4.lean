/- slices.Insert ahead of an element, at labels and at bytes. -/
import Derived.Test.YtkkaaipiaandaaaDoorA3
import Derived.Shelf.Spec.SlicesInsertGrow
import Derived.Laws.CopyOwn
namespace Go.Proofs.YtkkaaipiaandaaaDoor.PC
open Go.RowKit Go.Lib Go.Shelf Go.Maps Go.Proofs.YtkkaaipiaandaaaDoorW.PrintWords Go.Proofs.YtkkaaipiaandaaaDoorW.PrintLast Go.Proofs.YtkkaaipiaandaaaDoorW.PrintMore
set_option linter.unusedVariables false
set_option linter.unusedSimpArgs false
theorem Kb.setRow {S : Nat → Prop} {w w1 : World} (h : Kb S w w1) {g : Nat} (hg : S g ∨ w.heap.size ≤ g) (cs : Array Value) : Kb S w (w1.setRow g cs) := by
  refine ⟨h.os, h.tape, h.output, ?_, fun k hk hs => ?_⟩
  · rw [show (w1.setRow g cs).heap.size = w1.heap.size by simp [World.setRow]]
    exact h.size
  · have hne : k ≠ g := by
      rcases hg with hg | hg
      · intro e; subst e; exact hs hg
      · omega
    rw [setRow_other w1 g k cs hne]
    exact h.block k hk hs
theorem run_copy_k {P : Program} (w : World) (dT sT ty elem : TypeId) (k : Nat) (g o dLen dCap : Nat) (a : Addr) (sLen sCap : Nat) (cur : List Value) (t : TypeId) (cs : List Value)
    (hu : P.underlying dT = some (.slice elem)) (hs : (P.info? elem).map (·.size) = some k)
    (hg : w.heap[g]? = some (.cells cur.toArray t (0, 0))) (cnt : Nat) (hc : Nat.min sLen dLen = cnt) (hn : cs.length = cnt * k)
    (hsrc : ∀ j v, cs[j]? = some v → w.cell? (a.add j) = some v) (hfit : o + cs.length ≤ cur.length) (h1 : ∀ v ∈ cs, v.oneCell' = true) :
    (Builtin.copy_ #[dT, sT] ty #[.slice (some ⟨g, o, none⟩) dLen dCap, .slice (some a) sLen sCap]).run P w =
      .ok (goInt cnt) (w.setRow g (splice cur o cs).toArray) := by
  have hl := run_loadCells_list (P := P) w a cs hsrc
  have hst := run_storeCells_at P g o t cs 0 cur.toArray w hg (by simpa using hfit) h1
  cases hq : P.info? elem with
  | none => simp [hq] at hs
  | some i =>
    have hi : i.size = k := by simpa [hq] using hs
    simp [Builtin.copy_, run_underlying hu, Builtin.lenOf, Builtin.firstCells, sizeOf, typeInfo, hq, hi, hc, ← hn, hl, hst, splice]
theorem shape_of {w : World} {g : Nat} {cur : Array Value} {t : TypeId} {fz : Nat × Nat} (h : w.heap[g]? = some (.cells cur t fz)) : w.shape? g = some (t, cur.size) := by
  simp [World.shape?, h]
theorem frozen_of {w : World} {g j : Nat} {cur : Array Value} {t : TypeId} (h : w.heap[g]? = some (.cells cur t (0, 0))) : w.frozen? ⟨g, j, none⟩ = false := by
  simp [World.frozen?, h]
theorem cells_of {w : World} {g : Nat} {cur : List Value} {t : TypeId} (h : w.heap[g]? = some (.cells cur.toArray t (0, 0))) (o : Nat) (cs : List Value) (hc : ∀ j v, cs[j]? = some v → cur[o + j]? = some v) : ∀ j v, cs[j]? = some v → w.cell? ((⟨g, o, none⟩ : Addr).add j) = some v := by
  intro j v hj
  rw [Addr.add_lit, blk_cell h]
  simpa using hc j v hj
theorem splice_split {A M Z cs : List Value} {o : Nat} (hA : A.length = o) (hM : M.length = cs.length) : splice (A ++ (M ++ Z)) o cs = A ++ (cs ++ Z) := by
  have h : (A ++ (M ++ Z)).drop (o + cs.length) = Z := by
    rw [← List.append_assoc]
    exact List.drop_left' (by rw [List.length_append, hA, hM])
  unfold splice
  rw [List.take_left' hA, h]

theorem insert_cells (cl xs vs : List Value) (n i m : Nat) (hx : cl.take n = xs) (hi : i ≤ n) (hc : n + m ≤ cl.length) (hv : vs.length = m) (p : Nat) (hp : p = i + m) (q : Nat) (hq : q = n + m) :
    (splice (splice cl p (xs.drop i)) i vs).take q = xs.take i ++ (vs ++ xs.drop i) := by
  subst hp; subst hq
  have hxl : xs.length = n := by rw [← hx, List.length_take]; omega
  have hl1 : (xs.take i).length = i := by rw [List.length_take]; omega
  have hdl : (xs.drop i).length = n - i := by rw [List.length_drop, hxl]
  obtain ⟨T1, T2, hT, hT1⟩ : ∃ T1 T2, cl.drop n = T1 ++ T2 ∧ T1.length = m := ⟨(cl.drop n).take m, (cl.drop n).drop m, (List.take_append_drop m _).symm, by rw [List.length_take, List.length_drop]; omega⟩
  have hcl : cl = xs.take i ++ ((xs.drop i ++ T1) ++ T2) := by
    rw [List.append_assoc, ← hT, ← List.append_assoc, List.take_append_drop, ← hx, List.take_append_drop]
  obtain ⟨Y1, Y2, hY, hY1⟩ : ∃ Y1 Y2, xs.drop i ++ T1 = Y1 ++ Y2 ∧ Y1.length = m := ⟨(xs.drop i ++ T1).take m, (xs.drop i ++ T1).drop m, (List.take_append_drop m _).symm, by rw [List.length_take, List.length_append, hdl, hT1]; omega⟩
  have hY2 : Y2.length = (xs.drop i).length := by
    have := congrArg List.length hY
    rw [List.length_append, List.length_append, hdl, hT1, hY1] at this
    rw [hdl]
    omega
  rw [hcl, hY, List.append_assoc Y1, ← List.append_assoc (xs.take i), splice_split (by rw [List.length_append, hl1, hY1]) hY2, List.append_assoc, splice_split hl1 (by rw [hY1, hv]), ← List.append_assoc vs, ← List.append_assoc (xs.take i)]
  exact List.take_left' (by simp only [List.length_append, hl1, hv, hdl]; omega)
theorem insert_fresh (xs vs Z : List Value) (n i m : Nat) (hx : xs.length = n) (hi : i ≤ n) (hv : vs.length = m) (p : Nat) (hp : p = i + m) (q : Nat) (hq : q = n + m) (hz : n + m - i ≤ Z.length) :
    (splice (splice (xs.take i ++ Z) i vs) p (xs.drop i)).take q = xs.take i ++ (vs ++ xs.drop i) := by
  subst hp; subst hq
  have hl1 : (xs.take i).length = i := by rw [List.length_take]; omega
  have hdl : (xs.drop i).length = n - i := by rw [List.length_drop, hx]
  obtain ⟨Z1, Z2, Z3, hZ, hZ1, hZ2⟩ : ∃ Z1 Z2 Z3, Z = Z1 ++ (Z2 ++ Z3) ∧ Z1.length = m ∧ Z2.length = n - i := by
    refine ⟨Z.take m, (Z.drop m).take (n - i), (Z.drop m).drop (n - i), by rw [List.take_append_drop, List.take_append_drop], ?_, ?_⟩
    · rw [List.length_take]; omega
    · rw [List.length_take, List.length_drop]; omega
  rw [hZ, splice_split hl1 (by rw [hZ1, hv]), ← List.append_assoc (xs.take i), splice_split (by rw [List.length_append, hl1, hv]) (by rw [hZ2, hdl]), List.append_assoc, ← List.append_assoc vs, ← List.append_assoc (xs.take i)]
  exact List.take_left' (by simp only [List.length_append, hl1, hv, hdl]; omega)

/- slices.Insert at insL. -/
set_option maxHeartbeats 16000000 in
set_option maxRecDepth 100000 in
theorem insL_calls (B g c1 n i m : Nat) (v : Value) (xs vs : List Value) (w : World) (hB : B ≤ w.heap.size) (hr : w.ownsRow B 36 2 v n xs) (hi : i < n) (hm : 0 < m) (hmc : m ≤ 1000000) (hnc : n ≤ 1000000) (hx1 : ∀ u ∈ xs, u.oneCell' = true) (hv1 : ∀ u ∈ vs, u.oneCell' = true)
    (fz : Nat × Nat) (hv : w.heap[g]? = some (.cells vs.toArray 36 (0, 0))) (hvl : vs.length = m * 2) (hgb : v.ownBlock ≠ some g) :
    Calls Tryd.prog 30 #[v, .int .i64 i, .slice (some ⟨g, 0, none⟩) m c1] w fun e w' => (∃ v', e = .returned v' ∧ w'.ownsRow B 36 2 v' (n + m) (xs.take (i * 2) ++ (vs ++ xs.drop (i * 2)))) ∧ Kb (fun j => B ≤ j) w w' := by
  obtain ⟨hxl, ⟨-, h0⟩ | ⟨b, c, cur, rfl, hBb, hb, hnc1, hcm, hcs, hct⟩⟩ := hr
  · omega
  have hgb : g ≠ b := fun h => hgb (by rw [h]; rfl)
  obtain ⟨cl, rfl⟩ : ∃ cl : List Value, cur = cl.toArray := ⟨cur.toList, by simp⟩
  rw [List.size_toArray] at hcs
  have hct : cl.take (n * 2) = xs := by simpa using hct
  have hblt : b < w.heap.size := blk_lt hb
  have hglt : g < w.heap.size := blk_lt hv
  have mixed : Tryd.prog.follows .mixedOrders = true := by kernel_rfl
  have hsz : (Tryd.prog.info? 36).map (·.size) = some 2 := by kernel_rfl
  have hw1 : IntKind.i64.wrap ((i : Int) + (m : Int)) = (i : Int) + (m : Int) := by rw [IntKind.wrap_i64]; omega
  have hw2 : IntKind.i64.wrap ((n : Int) + (m : Int)) = (n : Int) + (m : Int) := by rw [IntKind.wrap_i64]; omega
  have hz1 : ¬ ((m : Int) = 0) := by omega
  have hz2 : ¬ ((i : Int) = (n : Int)) := by omega
  have hb1 : (0 : Int) ≤ (i : Int) + (m : Int) := by omega
  have hb0 : (0 : Int) ≤ (n : Int) + (m : Int) := by omega
  have hin : i ≤ n := by omega
  have htn : ((i : Int) + (m : Int)).toNat = i + m := by omega
  have htm : ((n : Int) + (m : Int)).toNat = n + m := by omega
  have hmax : c ≤ 9223372036854775807 := by unfold maxLen at hcm; omega
  have HX1 := Aside0.mk hx1
  have HV1 := Aside0.mk hv1
  have HB := Aside0.mk hB
  have HBB := Aside0.mk hBb
  have HBH := Aside0.mk hb
  have HVH := Aside0.mk hv
  have hdl : (xs.drop (i * 2)).length = (n - i) * 2 := by rw [List.length_drop, hxl]; omega
  have hsrcB : ∀ j u, (xs.drop (i * 2))[j]? = some u → cl[i * 2 + j]? = some u := fun j u hj => by
    rw [List.getElem?_drop] at hj
    rw [← hct, List.getElem?_take] at hj
    split at hj
    · exact hj
    · cases hj
  by_cases hroom : n + m ≤ c
  · -- there is room
    have hov : ∀ (W : World) lb cb, W.heap[g]? = some (.cells vs.toArray 36 (0, 0)) → W.heap[b]? = some (.cells cl.toArray 36 (0, 0)) → ∀ o, (callFunc 51 #[.slice (some ⟨g, 0, none⟩) m c1, .slice (some ⟨b, o, none⟩) lb cb]).run Tryd.prog W = .ok (.value (.bool false)) W := fun W lb cb h1 h2 o => by
      rw [run_callFunc_extern Tryd.func51 (by kernel_rfl) (by kernel_rfl) (by kernel_rfl) (e := Extern.SlicesOverlaps.overlaps #[25, 25] #[4]) (by kernel_rfl),
        Lib.run_overlaps_apart W 25 4 36 Tryd.underlying25 2 Tryd.sizeOf36 ⟨g, 0, none⟩ ⟨b, o, none⟩ m c1 lb cb hgb _ _ _ _ (shape_of h1) (shape_of h2) (by rw [List.size_toArray]; omega) (frozen_of h1) (frozen_of h1)]
      rfl
    have hcp1 : ∀ (W : World) o1 l1 c1' o2 l2 c2 ty, o1 = (i + m) * 2 → o2 = i * 2 → l1 = n - i → n - i ≤ l2 → W.heap[b]? = some (.cells cl.toArray 36 (0, 0)) → (Builtin.copy_ #[25, 25] ty #[.slice (some ⟨b, o1, none⟩) l1 c1', .slice (some ⟨b, o2, none⟩) l2 c2]).run Tryd.prog W = .ok (goInt ((n - i : Nat) : Int)) (W.setRow b (splice cl ((i + m) * 2) (xs.drop (i * 2))).toArray) := fun W o1 l1 c1' o2 l2 c2 ty h1 h2 h3 h4 hh => by
      subst h1; subst h2; subst h3
      exact run_copy_k W 25 25 ty 36 2 b ((i + m) * 2) _ _ ⟨b, i * 2, none⟩ _ _ cl 36 _ Tryd.underlying25 hsz hh (n - i) (Nat.min_eq_right h4) hdl (cells_of hh _ _ hsrcB) (by rw [hdl]; omega) (fun u hu => HX1.out u (List.mem_of_mem_drop hu))
    obtain ⟨R1, hR1⟩ : ∃ R1, R1 = splice cl ((i + m) * 2) (xs.drop (i * 2)) := ⟨_, rfl⟩
    have hR1l : R1.length = cl.length := by rw [hR1]; exact length_splice _ _ _ (by rw [hdl]; omega)
    rw [← hR1] at hcp1
    have hcp2 : ∀ (W : World) o1 l1 c1' c2 ty, o1 = i * 2 → m ≤ l1 → W.heap[b]? = some (.cells R1.toArray 36 (0, 0)) → W.heap[g]? = some (.cells vs.toArray 36 (0, 0)) → (Builtin.copy_ #[25, 25] ty #[.slice (some ⟨b, o1, none⟩) l1 c1', .slice (some ⟨g, 0, none⟩) m c2]).run Tryd.prog W = .ok (goInt (m : Int)) (W.setRow b (splice R1 (i * 2) vs).toArray) := fun W o1 l1 c1' c2 ty h1 h3 hh hg => by
      subst h1
      exact run_copy_k W 25 25 ty 36 2 b _ _ _ _ _ _ R1 36 _ Tryd.underlying25 hsz hh m (Nat.min_eq_left h3) hvl (cells_of hg 0 _ (fun j u hj => by rw [Nat.zero_add]; exact hj)) (by rw [hR1l, hvl]; omega) (fun u hu => HV1.out u hu)
    obtain ⟨R2, hR2⟩ : ∃ R2, R2 = splice R1 (i * 2) vs := ⟨_, rfl⟩
    have HR2l := Aside0.mk (show R2.length = c * 2 by rw [hR2, length_splice _ _ _ (by rw [hR1l, hvl]; omega), hR1l, hcs])
    rw [← hR2] at hcp2
    have HRR := Aside0.mk (show R2.take ((n + m) * 2) = xs.take (i * 2) ++ (vs ++ xs.drop (i * 2)) by
      rw [hR2, hR1]
      exact insert_cells cl xs vs (n * 2) (i * 2) (m * 2) hct (by omega) (by rw [hcs]; omega) hvl ((i + m) * 2) (by omega) ((n + m) * 2) (by omega))
    have h1s : ∀ (W : World), W.heap[b]? = some (.cells cl.toArray 36 (0, 0)) → (W.setRow b R1.toArray).heap[b]? = some (.cells R1.toArray 36 (0, 0)) := fun W h => setRow_heap W b _ _ _ _ h
    have h1g : ∀ (W : World), W.heap[g]? = some (.cells vs.toArray 36 (0, 0)) → (W.setRow b R1.toArray).heap[g]? = some (.cells vs.toArray 36 (0, 0)) := fun W h => by rw [setRow_other _ _ _ _ hgb]; exact h
    have hc2 : ¬ (c < n + m) := by omega
    have hc3 : ¬ ((c : Int) < (n : Int) + (m : Int)) := by omega
    have hc4 : (n : Int) + (m : Int) ≤ (c : Int) := by omega
    have hb3 : (i : Int) ≤ (n : Int) + (m : Int) := by omega
    have hb4 : ¬ (c = i + m) := by omega
    have hb5 : ¬ (c = i) := by omega
    have HSB := Aside0.mk (h1s w.drew hb)
    have HSG := Aside0.mk (h1g w.drew hv)
    have HRN2 := Aside0.mk (fun ty => hcp2 (w.drew.setRow b R1.toArray) (i * 2) (n + m - i) (c - i) c1 ty (by omega) (by omega) HSB.out HSG.out)
    have HCP1 := Aside0.mk hcp1
    have HCP2 := Aside0.mk hcp2
    have HS1 := Aside0.mk h1s
    have HG1 := Aside0.mk h1g
    have HOV := Aside0.mk hov
    clear hsrcB hR1 hR2 hR1l hcp1 hcp2 h1s h1g hx1 hv1 hB hBb hdl hct hxl hcs hvl hov
    have hovw := fun lb cb o => HOV.out w lb cb hv hb o
    clear hv hb
    go_enter Tryd.func30, Tryd.ntmps30
    go_wp2_with (simp only [hovw])
    go_region_law_o (refine step_copy_runI rfl _ _ 25 25 rfl (.slice (some ⟨b, (i + m) * 2, none⟩) (n + m - (i + m)) (c - (i + m))) (.slice (some ⟨b, i * 2, none⟩) (n + m - i) (c - i)) (by simp [Act.eval, Act.put]) (by simp [Act.eval, Act.put]) (HCP1.out _ _ _ _ _ _ _ _ (by omega) (by omega) (by omega) (by omega) (by with_unfolding_all exact HBH.out)) ?_)
    go_wp2_with (simp only [HRN2.out])
    go_ret
    refine ⟨⟨_, rfl, ?_, .inr ⟨b, c, R2.toArray, rfl, HBB.out, setRow_heap _ b _ _ _ _ (by with_unfolding_all exact HS1.out _ HBH.out), hroom, by unfold maxLen; omega, by rw [List.size_toArray]; exact HR2l.out, by simpa using HRR.out⟩⟩, ?_⟩
    · rw [← HRR.out, List.length_take, HR2l.out]
      omega
    · exact Kb.setRow (by with_unfolding_all exact Kb.setRow ((Kb.refl (fun j => B ≤ j) w).drew) (.inl HBB.out) _) (.inl HBB.out) _
  · -- a new row
    have hroom : c < n + m := by omega
    have hz3 : (c : Int) < (n : Int) + (m : Int) := by omega
    obtain ⟨i0, hi0, hz0, hzs, hzb⟩ := info_parts (show (Tryd.prog.info? 36).map (fun i => (i.zero, i.size, i.bytes)) = some (some (.agg #[.string ⟨#[]⟩, .string ⟨#[]⟩]), 2, 32) by kernel_rfl)
    have hkk : (n : Int) + (m : Int) - (i : Int) = ((n + m - i : Nat) : Int) := by omega
    have hwk : IntKind.i64.wrap ((n : Int) + (m : Int) - (i : Int)) = (n : Int) + (m : Int) - (i : Int) := by rw [IntKind.wrap_i64]; omega
    have hik : i + (n + m - i) = n + m := by omega
    have htk : (cl.take (i * 2)) = xs.take (i * 2) := by rw [← hct, List.take_take, Nat.min_eq_left (by omega)]
    have hold : (Builtin.firstCells i0.size i (.slice (some ⟨b, 0, none⟩) i c)).run Tryd.prog w.drew = .ok (xs.take (i * 2)).toArray w.drew := by
      rw [hzs]
      exact run_firstCells_some w.drew 2 i ⟨b, 0, none⟩ i c (xs.take (i * 2)) (by rw [List.length_take, hxl]; omega) (cells_of (w := w.drew) hb 0 _ (fun j u hj => by
        rw [← htk, List.getElem?_take] at hj
        split at hj
        · rw [Nat.zero_add]; exact hj
        · cases hj))
    obtain ⟨G, hG⟩ : ∃ G, G = grownCap w (n + m) c 36 := ⟨_, rfl⟩
    have hGn : n + m ≤ G := by rw [hG]; exact grownCap_ge w _ _ _
    have hG63 : G ≤ 9223372036854775807 := by
      have := grownCap_le_maxLen w (n + m) c 36 (by unfold maxLen; omega)
      rw [← hG] at this
      unfold maxLen at this
      omega
    obtain ⟨RL, hRL⟩ : ∃ RL : List Value, RL = xs.take (i * 2) ++ ((Builtin.zeroCells (.agg #[.string ⟨#[]⟩, .string ⟨#[]⟩] : Value).cells (n + m - i)).toList ++ (Builtin.zeroCells (.agg #[.string ⟨#[]⟩, .string ⟨#[]⟩] : Value).cells (G - (n + m))).toList) := ⟨_, rfl⟩
    have hrz : ∀ ty, (Builtin.append_ #[25, 3] ty #[.slice (some ⟨b, 0, none⟩) i c, .int .i64 ((n : Int) + (m : Int) - (i : Int))]).run Tryd.prog w =
        .ok (.slice (some ⟨w.heap.size, 0, none⟩) (n + m) G) (w.drew.alloc (.cells RL.toArray 36)) := fun ty => by
      have h := Lib.run_append_grow_zeros w 25 3 ty 36 i0 _ .i64 .i64 Tryd.underlying25 Tryd.underlying3 hi0 hz0 (some ⟨b, 0, none⟩) i c (xs.take (i * 2)) hold (n + m - i) (by omega) (by omega) (by omega) (by omega) (by rw [hzb]; omega) (by rw [hzb, hik]; exact growslice_fits hroom (by omega))
      rw [hik, ← hG] at h
      rw [hkk, h, hRL]
      congr 4
      simp
    have hzl : ∀ q, (Builtin.zeroCells (.agg #[.string ⟨#[]⟩, .string ⟨#[]⟩] : Value).cells q).toList.length = q * 2 := fun q => by simp [Builtin.zeroCells, Value.cells]
    have hRLl : RL.length = G * 2 := by
      rw [hRL, List.length_append, List.length_append, hzl, hzl, List.length_take, hxl]
      omega
    have hcpA : ∀ (W : World) o1 l1 c1' c2 ty, o1 = i * 2 → m ≤ l1 → W.heap[w.heap.size]? = some (.cells RL.toArray 36 (0, 0)) → W.heap[g]? = some (.cells vs.toArray 36 (0, 0)) → (Builtin.copy_ #[25, 25] ty #[.slice (some ⟨w.heap.size, o1, none⟩) l1 c1', .slice (some ⟨g, 0, none⟩) m c2]).run Tryd.prog W = .ok (goInt (m : Int)) (W.setRow w.heap.size (splice RL (i * 2) vs).toArray) := fun W o1 l1 c1' c2 ty h1 h3 hh hg => by
      subst h1
      exact run_copy_k W 25 25 ty 36 2 w.heap.size _ _ _ _ _ _ RL 36 _ Tryd.underlying25 hsz hh m (Nat.min_eq_left h3) hvl (cells_of hg 0 _ (fun j u hj => by rw [Nat.zero_add]; exact hj)) (by rw [hRLl, hvl]; omega) (fun u hu => HV1.out u hu)
    obtain ⟨R1, hR1⟩ : ∃ R1, R1 = splice RL (i * 2) vs := ⟨_, rfl⟩
    have hR1l : R1.length = G * 2 := by rw [hR1, length_splice _ _ _ (by rw [hRLl, hvl]; omega), hRLl]
    rw [← hR1] at hcpA
    have hcpB : ∀ (W : World) o1 l1 c1' o2 l2 c2 ty, o1 = (i + m) * 2 → o2 = i * 2 → l1 = n - i → n - i ≤ l2 → W.heap[w.heap.size]? = some (.cells R1.toArray 36 (0, 0)) → W.heap[b]? = some (.cells cl.toArray 36 (0, 0)) → (Builtin.copy_ #[25, 25] ty #[.slice (some ⟨w.heap.size, o1, none⟩) l1 c1', .slice (some ⟨b, o2, none⟩) l2 c2]).run Tryd.prog W = .ok (goInt ((n - i : Nat) : Int)) (W.setRow w.heap.size (splice R1 ((i + m) * 2) (xs.drop (i * 2))).toArray) := fun W o1 l1 c1' o2 l2 c2 ty h1 h2 h3 h4 hh hbb => by
      subst h1; subst h2; subst h3
      exact run_copy_k W 25 25 ty 36 2 w.heap.size ((i + m) * 2) _ _ ⟨b, i * 2, none⟩ _ _ R1 36 _ Tryd.underlying25 hsz hh (n - i) (Nat.min_eq_right h4) hdl (cells_of hbb _ _ hsrcB) (by rw [hR1l, hdl]; omega) (fun u hu => HX1.out u (List.mem_of_mem_drop hu))
    obtain ⟨R2, hR2⟩ : ∃ R2, R2 = splice R1 ((i + m) * 2) (xs.drop (i * 2)) := ⟨_, rfl⟩
    have HR2l := Aside0.mk (show R2.length = G * 2 by rw [hR2, length_splice _ _ _ (by rw [hR1l, hdl]; omega), hR1l])
    rw [← hR2] at hcpB
    have HRR := Aside0.mk (show R2.take ((n + m) * 2) = xs.take (i * 2) ++ (vs ++ xs.drop (i * 2)) by
      rw [hR2, hR1, hRL]
      exact insert_fresh xs vs _ (n * 2) (i * 2) (m * 2) hxl (by omega) hvl ((i + m) * 2) (by omega) ((n + m) * 2) (by omega) (by rw [List.length_append, hzl, hzl]; omega))
    have hN0 : (w.alloc (.cells RL.toArray 36)).heap[w.heap.size]? = some (.cells RL.toArray 36 (0, 0)) := World.alloc_heap_new w _
    have hO0 : ∀ q o, w.heap[q]? = some o → (w.alloc (.cells RL.toArray 36)).heap[q]? = some o := fun q o h => (Below.heap_alloc _ _ _ (by have := blk_lt h; omega)).trans h
    have hO1 : ∀ (W : World) q o, q ≠ w.heap.size → W.heap[q]? = some o → (W.setRow w.heap.size R1.toArray).heap[q]? = some o := fun W q o hq h => by rw [setRow_other _ _ _ _ hq]; exact h
    have hGi : ¬ (G = i) := by omega
    have hGim : ¬ (G = i + m) := by omega
    have hci : ¬ (c = i) := by omega
    have hb3 : (i : Int) ≤ (n : Int) := by omega
    have hb6 : (i : Int) + (m : Int) ≤ (n : Int) + (m : Int) := by omega
    have HRZ := Aside0.mk hrz
    have HCPA := Aside0.mk hcpA
    have HRNA := Aside0.mk (fun ty => hcpA (w.alloc (.cells RL.toArray 36)).drew (i * 2) (n + m - i) (G - i) c1 ty (by omega) (by omega) hN0 (hO0 g _ hv))
    have HCPB := Aside0.mk hcpB
    have HN0 := Aside0.mk hN0
    have HVN := Aside0.mk (hO0 g _ hv)
    have HBN := Aside0.mk (hO0 b _ hb)
    have HN1 := Aside0.mk (setRow_heap (w.alloc (.cells RL.toArray 36)).drew w.heap.size _ R1.toArray _ _ hN0)
    have HB1 := Aside0.mk (hO1 (w.alloc (.cells RL.toArray 36)).drew b _ (by omega) (hO0 b _ hb))
    clear hkk hik htk hold hG hRL hrz hzl hRLl hcpA hcpB hR1 hR2 hR1l hN0 hO0 hO1 hsrcB hdl hct hxl hcs hvl hx1 hv1 hB hBb hv hb hi0 hz0 hzs hzb
    go_enter Tryd.func30, Tryd.ntmps30
    go_wp2_with (first
      | (at_builtin; refine Lib.wpList_append_run _ rfl _ _ _ _ rfl _ _ rfl rfl _ _ (HRZ.out _) ?_)
      | (simp only [HRNA.out]))
    go_region_law_o (refine step_copy_runI rfl _ _ 25 25 rfl (.slice (some ⟨w.heap.size, (i + m) * 2, none⟩) (n + m - (i + m)) (G - (i + m))) (.slice (some ⟨b, i * 2, none⟩) (n - i) (c - i)) (by simp [Act.eval, Act.put]) (by simp [Act.eval, Act.put]) (HCPB.out _ _ _ _ _ _ _ _ (by omega) (by omega) (by omega) (by omega) (by with_unfolding_all exact HN1.out) (by with_unfolding_all exact HB1.out)) ?_)
    go_wp2
    go_ret
    refine ⟨⟨_, rfl, ?_, .inr ⟨w.heap.size, G, R2.toArray, rfl, HB.out, setRow_heap _ w.heap.size _ _ _ _ (by with_unfolding_all exact HN1.out), by omega, by unfold maxLen; omega, by rw [List.size_toArray]; exact HR2l.out, by simpa using HRR.out⟩⟩, ?_⟩
    · rw [← HRR.out, List.length_take, HR2l.out]
      omega
    · exact Kb.setRow (Kb.drew (Kb.setRow (Kb.drew ((Kb.refl (fun j => B ≤ j) w).alloc _)) (.inr (Nat.le_refl _)) _)) (.inr (Nat.le_refl _)) _

/- slices.Insert at insB. -/
set_option maxHeartbeats 16000000 in
set_option maxRecDepth 100000 in
theorem insB_calls (B g c1 n i m : Nat) (v : Value) (xs vs : List Value) (w : World) (hB : B ≤ w.heap.size) (hr : w.ownsRow B 5 1 v n xs) (hi : i < n) (hm : 0 < m) (hmc : m ≤ 1000000) (hnc : n ≤ 1000000) (hx1 : ∀ u ∈ xs, u.oneCell' = true) (hv1 : ∀ u ∈ vs, u.oneCell' = true)
    (fz : Nat × Nat) (hv : w.heap[g]? = some (.cells vs.toArray 5 (0, 0))) (hvl : vs.length = m * 1) (hgb : v.ownBlock ≠ some g) :
    Calls Tryd.prog 17 #[v, .int .i64 i, .slice (some ⟨g, 0, none⟩) m c1] w fun e w' => (∃ v', e = .returned v' ∧ w'.ownsRow B 5 1 v' (n + m) (xs.take (i * 1) ++ (vs ++ xs.drop (i * 1)))) ∧ Kb (fun j => B ≤ j) w w' := by
  obtain ⟨hxl, ⟨-, h0⟩ | ⟨b, c, cur, rfl, hBb, hb, hnc1, hcm, hcs, hct⟩⟩ := hr
  · omega
  have hgb : g ≠ b := fun h => hgb (by rw [h]; rfl)
  obtain ⟨cl, rfl⟩ : ∃ cl : List Value, cur = cl.toArray := ⟨cur.toList, by simp⟩
  rw [List.size_toArray] at hcs
  have hct : cl.take (n * 1) = xs := by simpa using hct
  have hblt : b < w.heap.size := blk_lt hb
  have hglt : g < w.heap.size := blk_lt hv
  have mixed : Tryd.prog.follows .mixedOrders = true := by kernel_rfl
  have hsz : (Tryd.prog.info? 5).map (·.size) = some 1 := by kernel_rfl
  have hw1 : IntKind.i64.wrap ((i : Int) + (m : Int)) = (i : Int) + (m : Int) := by rw [IntKind.wrap_i64]; omega
  have hw2 : IntKind.i64.wrap ((n : Int) + (m : Int)) = (n : Int) + (m : Int) := by rw [IntKind.wrap_i64]; omega
  have hz1 : ¬ ((m : Int) = 0) := by omega
  have hz2 : ¬ ((i : Int) = (n : Int)) := by omega
  have hb1 : (0 : Int) ≤ (i : Int) + (m : Int) := by omega
  have hb0 : (0 : Int) ≤ (n : Int) + (m : Int) := by omega
  have hin : i ≤ n := by omega
  have htn : ((i : Int) + (m : Int)).toNat = i + m := by omega
  have htm : ((n : Int) + (m : Int)).toNat = n + m := by omega
  have hmax : c ≤ 9223372036854775807 := by unfold maxLen at hcm; omega
  have HX1 := Aside0.mk hx1
  have HV1 := Aside0.mk hv1
  have HB := Aside0.mk hB
  have HBB := Aside0.mk hBb
  have HBH := Aside0.mk hb
  have HVH := Aside0.mk hv
  have hdl : (xs.drop (i * 1)).length = (n - i) * 1 := by rw [List.length_drop, hxl]; omega
  have hsrcB : ∀ j u, (xs.drop (i * 1))[j]? = some u → cl[i * 1 + j]? = some u := fun j u hj => by
    rw [List.getElem?_drop] at hj
    rw [← hct, List.getElem?_take] at hj
    split at hj
    · exact hj
    · cases hj
  by_cases hroom : n + m ≤ c
  · -- there is room
    have hov : ∀ (W : World) lb cb, W.heap[g]? = some (.cells vs.toArray 5 (0, 0)) → W.heap[b]? = some (.cells cl.toArray 5 (0, 0)) → ∀ o, (callFunc 40 #[.slice (some ⟨g, 0, none⟩) m c1, .slice (some ⟨b, o, none⟩) lb cb]).run Tryd.prog W = .ok (.value (.bool false)) W := fun W lb cb h1 h2 o => by
      rw [run_callFunc_extern Tryd.func40 (by kernel_rfl) (by kernel_rfl) (by kernel_rfl) (e := Extern.SlicesOverlaps.overlaps #[37, 37] #[4]) (by kernel_rfl),
        Lib.run_overlaps_apart W 37 4 5 Tryd.underlying37 1 Tryd.sizeOf5 ⟨g, 0, none⟩ ⟨b, o, none⟩ m c1 lb cb hgb _ _ _ _ (shape_of h1) (shape_of h2) (by rw [List.size_toArray]; omega) (frozen_of h1) (frozen_of h1)]
      rfl
    have hcp1 : ∀ (W : World) o1 l1 c1' o2 l2 c2 ty, o1 = (i + m) * 1 → o2 = i * 1 → l1 = n - i → n - i ≤ l2 → W.heap[b]? = some (.cells cl.toArray 5 (0, 0)) → (Builtin.copy_ #[37, 37] ty #[.slice (some ⟨b, o1, none⟩) l1 c1', .slice (some ⟨b, o2, none⟩) l2 c2]).run Tryd.prog W = .ok (goInt ((n - i : Nat) : Int)) (W.setRow b (splice cl ((i + m) * 1) (xs.drop (i * 1))).toArray) := fun W o1 l1 c1' o2 l2 c2 ty h1 h2 h3 h4 hh => by
      subst h1; subst h2; subst h3
      exact run_copy_k W 37 37 ty 5 1 b ((i + m) * 1) _ _ ⟨b, i * 1, none⟩ _ _ cl 5 _ Tryd.underlying37 hsz hh (n - i) (Nat.min_eq_right h4) hdl (cells_of hh _ _ hsrcB) (by rw [hdl]; omega) (fun u hu => HX1.out u (List.mem_of_mem_drop hu))
    obtain ⟨R1, hR1⟩ : ∃ R1, R1 = splice cl ((i + m) * 1) (xs.drop (i * 1)) := ⟨_, rfl⟩
    have hR1l : R1.length = cl.length := by rw [hR1]; exact length_splice _ _ _ (by rw [hdl]; omega)
    rw [← hR1] at hcp1
    have hcp2 : ∀ (W : World) o1 l1 c1' c2 ty, o1 = i * 1 → m ≤ l1 → W.heap[b]? = some (.cells R1.toArray 5 (0, 0)) → W.heap[g]? = some (.cells vs.toArray 5 (0, 0)) → (Builtin.copy_ #[37, 37] ty #[.slice (some ⟨b, o1, none⟩) l1 c1', .slice (some ⟨g, 0, none⟩) m c2]).run Tryd.prog W = .ok (goInt (m : Int)) (W.setRow b (splice R1 (i * 1) vs).toArray) := fun W o1 l1 c1' c2 ty h1 h3 hh hg => by
      subst h1
      exact run_copy_k W 37 37 ty 5 1 b _ _ _ _ _ _ R1 5 _ Tryd.underlying37 hsz hh m (Nat.min_eq_left h3) hvl (cells_of hg 0 _ (fun j u hj => by rw [Nat.zero_add]; exact hj)) (by rw [hR1l, hvl]; omega) (fun u hu => HV1.out u hu)
    obtain ⟨R2, hR2⟩ : ∃ R2, R2 = splice R1 (i * 1) vs := ⟨_, rfl⟩
    have HR2l := Aside0.mk (show R2.length = c * 1 by rw [hR2, length_splice _ _ _ (by rw [hR1l, hvl]; omega), hR1l, hcs])
    rw [← hR2] at hcp2
    have HRR := Aside0.mk (show R2.take ((n + m) * 1) = xs.take (i * 1) ++ (vs ++ xs.drop (i * 1)) by
      rw [hR2, hR1]
      exact insert_cells cl xs vs (n * 1) (i * 1) (m * 1) hct (by omega) (by rw [hcs]; omega) hvl ((i + m) * 1) (by omega) ((n + m) * 1) (by omega))
    have h1s : ∀ (W : World), W.heap[b]? = some (.cells cl.toArray 5 (0, 0)) → (W.setRow b R1.toArray).heap[b]? = some (.cells R1.toArray 5 (0, 0)) := fun W h => setRow_heap W b _ _ _ _ h
    have h1g : ∀ (W : World), W.heap[g]? = some (.cells vs.toArray 5 (0, 0)) → (W.setRow b R1.toArray).heap[g]? = some (.cells vs.toArray 5 (0, 0)) := fun W h => by rw [setRow_other _ _ _ _ hgb]; exact h
    have hc2 : ¬ (c < n + m) := by omega
    have hc3 : ¬ ((c : Int) < (n : Int) + (m : Int)) := by omega
    have hc4 : (n : Int) + (m : Int) ≤ (c : Int) := by omega
    have hb3 : (i : Int) ≤ (n : Int) + (m : Int) := by omega
    have hb4 : ¬ (c = i + m) := by omega
    have hb5 : ¬ (c = i) := by omega
    have HSB := Aside0.mk (h1s w.drew hb)
    have HSG := Aside0.mk (h1g w.drew hv)
    have HRN2 := Aside0.mk (fun ty => hcp2 (w.drew.setRow b R1.toArray) (i) (n + m - i) (c - i) c1 ty (by omega) (by omega) HSB.out HSG.out)
    have HCP1 := Aside0.mk hcp1
    have HCP2 := Aside0.mk hcp2
    have HS1 := Aside0.mk h1s
    have HG1 := Aside0.mk h1g
    have HOV := Aside0.mk hov
    clear hsrcB hR1 hR2 hR1l hcp1 hcp2 h1s h1g hx1 hv1 hB hBb hdl hct hxl hcs hvl hov
    have hovw := fun lb cb o => HOV.out w lb cb hv hb o
    clear hv hb
    go_enter Tryd.func17, Tryd.ntmps17
    go_wp2_with (simp only [hovw])
    go_region_law_o (refine step_copy_runI rfl _ _ 37 37 rfl (.slice (some ⟨b, i + m, none⟩) (n + m - (i + m)) (c - (i + m))) (.slice (some ⟨b, i, none⟩) (n + m - i) (c - i)) (by simp [Act.eval, Act.put]) (by simp [Act.eval, Act.put]) (HCP1.out _ _ _ _ _ _ _ _ (by omega) (by omega) (by omega) (by omega) (by with_unfolding_all exact HBH.out)) ?_)
    go_wp2_with (simp only [HRN2.out])
    go_ret
    refine ⟨⟨_, rfl, ?_, .inr ⟨b, c, R2.toArray, rfl, HBB.out, setRow_heap _ b _ _ _ _ (by with_unfolding_all exact HS1.out _ HBH.out), hroom, by unfold maxLen; omega, by rw [List.size_toArray]; exact HR2l.out, by simpa using HRR.out⟩⟩, ?_⟩
    · rw [← HRR.out, List.length_take, HR2l.out]
      omega
    · exact Kb.setRow (by with_unfolding_all exact Kb.setRow ((Kb.refl (fun j => B ≤ j) w).drew) (.inl HBB.out) _) (.inl HBB.out) _
  · -- a new row
    have hroom : c < n + m := by omega
    have hz3 : (c : Int) < (n : Int) + (m : Int) := by omega
    obtain ⟨i0, hi0, hz0, hzs, hzb⟩ := info_parts (show (Tryd.prog.info? 5).map (fun i => (i.zero, i.size, i.bytes)) = some (some (.int .u8 0), 1, 1) by kernel_rfl)
    have hkk : (n : Int) + (m : Int) - (i : Int) = ((n + m - i : Nat) : Int) := by omega
    have hwk : IntKind.i64.wrap ((n : Int) + (m : Int) - (i : Int)) = (n : Int) + (m : Int) - (i : Int) := by rw [IntKind.wrap_i64]; omega
    have hik : i + (n + m - i) = n + m := by omega
    have htk : (cl.take (i * 1)) = xs.take (i * 1) := by rw [← hct, List.take_take, Nat.min_eq_left (by omega)]
    have hold : (Builtin.firstCells i0.size i (.slice (some ⟨b, 0, none⟩) i c)).run Tryd.prog w.drew = .ok (xs.take (i * 1)).toArray w.drew := by
      rw [hzs]
      exact run_firstCells_some w.drew 1 i ⟨b, 0, none⟩ i c (xs.take (i * 1)) (by rw [List.length_take, hxl]; omega) (cells_of (w := w.drew) hb 0 _ (fun j u hj => by
        rw [← htk, List.getElem?_take] at hj
        split at hj
        · rw [Nat.zero_add]; exact hj
        · cases hj))
    obtain ⟨G, hG⟩ : ∃ G, G = grownCap w (n + m) c 5 := ⟨_, rfl⟩
    have hGn : n + m ≤ G := by rw [hG]; exact grownCap_ge w _ _ _
    have hG63 : G ≤ 9223372036854775807 := by
      have := grownCap_le_maxLen w (n + m) c 5 (by unfold maxLen; omega)
      rw [← hG] at this
      unfold maxLen at this
      omega
    obtain ⟨RL, hRL⟩ : ∃ RL : List Value, RL = xs.take (i * 1) ++ ((Builtin.zeroCells (.int .u8 0 : Value).cells (n + m - i)).toList ++ (Builtin.zeroCells (.int .u8 0 : Value).cells (G - (n + m))).toList) := ⟨_, rfl⟩
    have hrz : ∀ ty, (Builtin.append_ #[37, 3] ty #[.slice (some ⟨b, 0, none⟩) i c, .int .i64 ((n : Int) + (m : Int) - (i : Int))]).run Tryd.prog w =
        .ok (.slice (some ⟨w.heap.size, 0, none⟩) (n + m) G) (w.drew.alloc (.cells RL.toArray 5)) := fun ty => by
      have h := Lib.run_append_grow_zeros w 37 3 ty 5 i0 _ .i64 .i64 Tryd.underlying37 Tryd.underlying3 hi0 hz0 (some ⟨b, 0, none⟩) i c (xs.take (i * 1)) hold (n + m - i) (by omega) (by omega) (by omega) (by omega) (by rw [hzb]; omega) (by rw [hzb, hik]; exact growslice_fits hroom (by omega))
      rw [hik, ← hG] at h
      rw [hkk, h, hRL]
      congr 4
      simp
    have hzl : ∀ q, (Builtin.zeroCells (.int .u8 0 : Value).cells q).toList.length = q * 1 := fun q => by simp [Builtin.zeroCells, Value.cells]
    have hRLl : RL.length = G * 1 := by
      rw [hRL, List.length_append, List.length_append, hzl, hzl, List.length_take, hxl]
      omega
    have hcpA : ∀ (W : World) o1 l1 c1' c2 ty, o1 = i * 1 → m ≤ l1 → W.heap[w.heap.size]? = some (.cells RL.toArray 5 (0, 0)) → W.heap[g]? = some (.cells vs.toArray 5 (0, 0)) → (Builtin.copy_ #[37, 37] ty #[.slice (some ⟨w.heap.size, o1, none⟩) l1 c1', .slice (some ⟨g, 0, none⟩) m c2]).run Tryd.prog W = .ok (goInt (m : Int)) (W.setRow w.heap.size (splice RL (i * 1) vs).toArray) := fun W o1 l1 c1' c2 ty h1 h3 hh hg => by
      subst h1
      exact run_copy_k W 37 37 ty 5 1 w.heap.size _ _ _ _ _ _ RL 5 _ Tryd.underlying37 hsz hh m (Nat.min_eq_left h3) hvl (cells_of hg 0 _ (fun j u hj => by rw [Nat.zero_add]; exact hj)) (by rw [hRLl, hvl]; omega) (fun u hu => HV1.out u hu)
    obtain ⟨R1, hR1⟩ : ∃ R1, R1 = splice RL (i * 1) vs := ⟨_, rfl⟩
    have hR1l : R1.length = G * 1 := by rw [hR1, length_splice _ _ _ (by rw [hRLl, hvl]; omega), hRLl]
    rw [← hR1] at hcpA
    have hcpB : ∀ (W : World) o1 l1 c1' o2 l2 c2 ty, o1 = (i + m) * 1 → o2 = i * 1 → l1 = n - i → n - i ≤ l2 → W.heap[w.heap.size]? = some (.cells R1.toArray 5 (0, 0)) → W.heap[b]? = some (.cells cl.toArray 5 (0, 0)) → (Builtin.copy_ #[37, 37] ty #[.slice (some ⟨w.heap.size, o1, none⟩) l1 c1', .slice (some ⟨b, o2, none⟩) l2 c2]).run Tryd.prog W = .ok (goInt ((n - i : Nat) : Int)) (W.setRow w.heap.size (splice R1 ((i + m) * 1) (xs.drop (i * 1))).toArray) := fun W o1 l1 c1' o2 l2 c2 ty h1 h2 h3 h4 hh hbb => by
      subst h1; subst h2; subst h3
      exact run_copy_k W 37 37 ty 5 1 w.heap.size ((i + m) * 1) _ _ ⟨b, i * 1, none⟩ _ _ R1 5 _ Tryd.underlying37 hsz hh (n - i) (Nat.min_eq_right h4) hdl (cells_of hbb _ _ hsrcB) (by rw [hR1l, hdl]; omega) (fun u hu => HX1.out u (List.mem_of_mem_drop hu))
    obtain ⟨R2, hR2⟩ : ∃ R2, R2 = splice R1 ((i + m) * 1) (xs.drop (i * 1)) := ⟨_, rfl⟩
    have HR2l := Aside0.mk (show R2.length = G * 1 by rw [hR2, length_splice _ _ _ (by rw [hR1l, hdl]; omega), hR1l])
    rw [← hR2] at hcpB
    have HRR := Aside0.mk (show R2.take ((n + m) * 1) = xs.take (i * 1) ++ (vs ++ xs.drop (i * 1)) by
      rw [hR2, hR1, hRL]
      exact insert_fresh xs vs _ (n * 1) (i * 1) (m * 1) hxl (by omega) hvl ((i + m) * 1) (by omega) ((n + m) * 1) (by omega) (by rw [List.length_append, hzl, hzl]; omega))
    have hN0 : (w.alloc (.cells RL.toArray 5)).heap[w.heap.size]? = some (.cells RL.toArray 5 (0, 0)) := World.alloc_heap_new w _
    have hO0 : ∀ q o, w.heap[q]? = some o → (w.alloc (.cells RL.toArray 5)).heap[q]? = some o := fun q o h => (Below.heap_alloc _ _ _ (by have := blk_lt h; omega)).trans h
    have hO1 : ∀ (W : World) q o, q ≠ w.heap.size → W.heap[q]? = some o → (W.setRow w.heap.size R1.toArray).heap[q]? = some o := fun W q o hq h => by rw [setRow_other _ _ _ _ hq]; exact h
    have hGi : ¬ (G = i) := by omega
    have hGim : ¬ (G = i + m) := by omega
    have hci : ¬ (c = i) := by omega
    have hb3 : (i : Int) ≤ (n : Int) := by omega
    have hb6 : (i : Int) + (m : Int) ≤ (n : Int) + (m : Int) := by omega
    have HRZ := Aside0.mk hrz
    have HCPA := Aside0.mk hcpA
    have HRNA := Aside0.mk (fun ty => hcpA (w.alloc (.cells RL.toArray 5)).drew (i) (n + m - i) (G - i) c1 ty (by omega) (by omega) hN0 (hO0 g _ hv))
    have HCPB := Aside0.mk hcpB
    have HN0 := Aside0.mk hN0
    have HVN := Aside0.mk (hO0 g _ hv)
    have HBN := Aside0.mk (hO0 b _ hb)
    have HN1 := Aside0.mk (setRow_heap (w.alloc (.cells RL.toArray 5)).drew w.heap.size _ R1.toArray _ _ hN0)
    have HB1 := Aside0.mk (hO1 (w.alloc (.cells RL.toArray 5)).drew b _ (by omega) (hO0 b _ hb))
    clear hkk hik htk hold hG hRL hrz hzl hRLl hcpA hcpB hR1 hR2 hR1l hN0 hO0 hO1 hsrcB hdl hct hxl hcs hvl hx1 hv1 hB hBb hv hb hi0 hz0 hzs hzb
    go_enter Tryd.func17, Tryd.ntmps17
    go_wp2_with (first
      | (at_builtin; refine Lib.wpList_append_run _ rfl _ _ _ _ rfl _ _ rfl rfl _ _ (HRZ.out _) ?_)
      | (simp only [HRNA.out]))
    go_region_law_o (refine step_copy_runI rfl _ _ 37 37 rfl (.slice (some ⟨w.heap.size, i + m, none⟩) (n + m - (i + m)) (G - (i + m))) (.slice (some ⟨b, i, none⟩) (n - i) (c - i)) (by simp [Act.eval, Act.put]) (by simp [Act.eval, Act.put]) (HCPB.out _ _ _ _ _ _ _ _ (by omega) (by omega) (by omega) (by omega) (by with_unfolding_all exact HN1.out) (by with_unfolding_all exact HB1.out)) ?_)
    go_wp2
    go_ret
    refine ⟨⟨_, rfl, ?_, .inr ⟨w.heap.size, G, R2.toArray, rfl, HB.out, setRow_heap _ w.heap.size _ _ _ _ (by with_unfolding_all exact HN1.out), by omega, by unfold maxLen; omega, by rw [List.size_toArray]; exact HR2l.out, by simpa using HRR.out⟩⟩, ?_⟩
    · rw [← HRR.out, List.length_take, HR2l.out]
      omega
    · exact Kb.setRow (Kb.drew (Kb.setRow (Kb.drew ((Kb.refl (fun j => B ≤ j) w).alloc _)) (.inr (Nat.le_refl _)) _)) (.inr (Nat.le_refl _)) _

end Go.Proofs.YtkkaaipiaandaaaDoor.PC
