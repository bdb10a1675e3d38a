/- slices.Insert at bytes that a text was turned into. -/
import Derived.Test.YtkkaaipiaandaaaDoorA4
namespace Go.Proofs.YtkkaaipiaandaaaDoor.PC
open Go.RowKit Go.Lib Go.Shelf Go.Maps Go.Proofs.YtkkaaipiaandaaaDoorW.PrintWords Go.Proofs.YtkkaaipiaandaaaDoorW.PrintLast Go.Proofs.YtkkaaipiaandaaaDoorW.PrintMore
set_option linter.unusedVariables false
set_option linter.unusedSimpArgs false
theorem heap_setCell_fz {w : World} {g : Nat} {t : TypeId} {fz : Nat × Nat} {cur : List Value} (h : w.heap[g]? = some (.cells cur.toArray t fz)) (i : Nat) (u : Value) : (w.setCell ⟨g, i, none⟩ u).heap[g]? = some (.cells (cur.set i u).toArray t fz) := by
  obtain ⟨hlt, hv⟩ := Array.getElem?_eq_some_iff.1 h
  unfold World.setCell
  simp only []
  rw [Array.getElem?_eq_getElem (by simpa using hlt), Array.getElem_modify]
  simp [hv]
theorem heap_setCell_other (w : World) (g q i : Nat) (u : Value) (hq : q ≠ g) : (w.setCell ⟨g, i, none⟩ u).heap[q]? = w.heap[q]? := by
  show (w.heap.modify g _)[q]? = _
  rw [Array.getElem?_modify, if_neg (fun e => hq e.symm)]
theorem heap_setCells (g : Nat) (t : TypeId) (fz : Nat × Nat) : ∀ (vs : List Value) (o : Nat) (cur : List Value) (w : World), w.heap[g]? = some (.cells cur.toArray t fz) → o + vs.length ≤ cur.length → (w.setCells g o vs).heap[g]? = some (.cells (splice cur o vs).toArray t fz)
  | [], o, cur, w, h, _ => by
    rw [show splice cur o [] = cur by simp [splice]]
    exact h
  | v :: r, o, cur, w, h, hf => by
    have hf2 : o + r.length + 1 ≤ cur.length := by simpa [Nat.add_assoc] using hf
    rw [World.setCells, heap_setCells g t fz r (o + 1) (cur.set o v) _ (heap_setCell_fz h o v) (by rw [List.length_set]; omega)]
    congr 3
    unfold splice
    rw [List.take_add_one, List.take_set_of_le (Nat.le_refl _), List.getElem?_set_self (by omega), List.drop_set_of_lt (by omega)]
    simp only [Option.toList_some, List.append_assoc, List.cons_append, List.nil_append, List.length_cons]
    rw [show o + 1 + r.length = o + (r.length + 1) by omega]
theorem heap_setCells_other (g q : Nat) : ∀ (vs : List Value) (o : Nat) (w : World), q ≠ g → (w.setCells g o vs).heap[q]? = w.heap[q]?
  | [], _, _, _ => rfl
  | v :: r, o, w, h => by rw [World.setCells, heap_setCells_other g q r (o + 1) _ h, heap_setCell_other w g q o v h]
theorem Kb.setCells {S : Nat → Prop} {w : World} {g : Nat} (hg : S g ∨ w.heap.size ≤ g) : ∀ (vs : List Value) (o : Nat) {w1 : World}, Kb S w w1 → Kb S w (w1.setCells g o vs)
  | [], _, _, h => h
  | v :: r, o, w1, h => by rw [World.setCells]; exact Kb.setCells hg r (o + 1) (h.setCell (p := ⟨g, o, none⟩) hg v)
theorem blk_cell_fz {w : World} {g : Nat} {t : TypeId} {fz : Nat × Nat} {cs : Array Value} (h : w.heap[g]? = some (.cells cs t fz)) (i : Nat) : w.cell? ⟨g, i, none⟩ = cs[i]? := by simp [World.cell?, h]
theorem cells_fz {w : World} {g : Nat} {cur : List Value} {t : TypeId} {fz : Nat × Nat} (h : w.heap[g]? = some (.cells cur.toArray t fz)) (o : Nat) (cs : List Value) (hc : ∀ j v, cs[j]? = some v → cur[o + j]? = some v) : ∀ j v, cs[j]? = some v → w.cell? ((⟨g, o, none⟩ : Addr).add j) = some v := by
  intro j v hj
  rw [Addr.add_lit, blk_cell_fz h]
  simpa using hc j v hj
theorem cell_some {w : World} {g j : Nat} {cur : List Value} {t : TypeId} {fz : Nat × Nat} (h : w.heap[g]? = some (.cells cur.toArray t fz)) (hj : j < cur.length) : (w.cell? ⟨g, j, none⟩).isSome = true := by
  rw [blk_cell_fz h, Array.getElem?_eq_getElem (by simpa using hj)]
  rfl
theorem frozen_fz {w : World} {g j c : Nat} {cur : Array Value} {t : TypeId} (h : w.heap[g]? = some (.cells cur t (c, c + 1))) (hj : j < c) : w.frozen? ⟨g, j, none⟩ = false := by
  simp [World.frozen?, h]
  omega
/- slices.Insert at insC. -/
set_option maxHeartbeats 16000000 in
set_option maxRecDepth 100000 in
theorem insC_calls (B g b c c1 n i m : Nat) (cl xs vs : List Value) (w : World) (hB : B ≤ w.heap.size) (hBb : B ≤ b) (hb : w.heap[b]? = some (.cells cl.toArray 5 (c, c + 1))) (hcs : cl.length = c) (hnc1 : n ≤ c) (hcm : c ≤ 9223372036854775807) (hct : cl.take n = xs) (hi : i < n) (hm : 0 < m) (hmc : m ≤ 1000000) (hnc : n ≤ 1000000) (hx1 : ∀ u ∈ xs, u.oneCell' = true) (hv1 : ∀ u ∈ vs, u.oneCell' = true)
    (fz : Nat × Nat) (hv : w.heap[g]? = some (.cells vs.toArray 5 (0, 0))) (hvl : vs.length = m) (hgb : g ≠ b) :
    Calls Tryd.prog 17 #[.slice (some ⟨b, 0, none⟩) n c, .int .i64 i, .slice (some ⟨g, 0, none⟩) m c1] w fun e w' => (∃ g' c', e = .returned (.slice (some ⟨g', 0, none⟩) (n + m) c') ∧ n + m ≤ c' ∧ ∀ j u, (xs.take (i) ++ (vs ++ xs.drop (i)))[j]? = some u → w'.cell? ⟨g', j, none⟩ = some u) ∧ Kb (fun j => B ≤ j) w w' := by
  have hxl : xs.length = n := by rw [← hct, List.length_take, Nat.min_eq_left (by omega)]
  have hct : cl.take (n) = xs := hct
  have hcs2 : cl.length = c := hcs
  have hblt : b < w.heap.size := blk_lt hb
  have hglt : g < w.heap.size := blk_lt hv
  have mixed : Tryd.prog.follows .mixedOrders = true := by kernel_rfl
  have hsz : (Tryd.prog.info? 5).map (·.size) = some 1 := by kernel_rfl
  have hw1 : IntKind.i64.wrap ((i : Int) + (m : Int)) = (i : Int) + (m : Int) := by rw [IntKind.wrap_i64]; omega
  have hw2 : IntKind.i64.wrap ((n : Int) + (m : Int)) = (n : Int) + (m : Int) := by rw [IntKind.wrap_i64]; omega
  have hz1 : ¬ ((m : Int) = 0) := by omega
  have hz2 : ¬ ((i : Int) = (n : Int)) := by omega
  have hb1 : (0 : Int) ≤ (i : Int) + (m : Int) := by omega
  have hb0 : (0 : Int) ≤ (n : Int) + (m : Int) := by omega
  have hin : i ≤ n := by omega
  have htn : ((i : Int) + (m : Int)).toNat = i + m := by omega
  have htm : ((n : Int) + (m : Int)).toNat = n + m := by omega
  have hmax : c ≤ 9223372036854775807 := hcm
  have HX1 := Aside0.mk hx1
  have HV1 := Aside0.mk hv1
  have HB := Aside0.mk hB
  have HBB := Aside0.mk hBb
  have HBH := Aside0.mk hb
  have HVH := Aside0.mk hv
  have hdl : (xs.drop (i)).length = (n - i) := by rw [List.length_drop, hxl]
  have hsrcB : ∀ j u, (xs.drop (i))[j]? = some u → cl[i + j]? = some u := fun j u hj => by
    rw [List.getElem?_drop] at hj
    rw [← hct, List.getElem?_take] at hj
    split at hj
    · exact hj
    · cases hj
  by_cases hroom : n + m ≤ c
  · -- there is room
    have hov : ∀ (W : World) lb cb, W.heap[g]? = some (.cells vs.toArray 5 (0, 0)) → W.heap[b]? = some (.cells cl.toArray 5 (c, c + 1)) → ∀ o, (callFunc 40 #[.slice (some ⟨g, 0, none⟩) m c1, .slice (some ⟨b, o, none⟩) lb cb]).run Tryd.prog W = .ok (.value (.bool false)) W := fun W lb cb h1 h2 o => by
      rw [run_callFunc_extern Tryd.func40 (by kernel_rfl) (by kernel_rfl) (by kernel_rfl) (e := Extern.SlicesOverlaps.overlaps #[37, 37] #[4]) (by kernel_rfl),
        Lib.run_overlaps_apart W 37 4 5 Tryd.underlying37 1 Tryd.sizeOf5 ⟨g, 0, none⟩ ⟨b, o, none⟩ m c1 lb cb hgb _ _ _ _ (shape_of h1) (shape_of h2) (by rw [List.size_toArray]; omega) (frozen_of h1) (frozen_of h1)]
      rfl
    have hcp1 : ∀ (W : World) o1 l1 c1' o2 l2 c2 ty, o1 = (i + m) → o2 = i → l1 = n - i → n - i ≤ l2 → W.heap[b]? = some (.cells cl.toArray 5 (c, c + 1)) → (Builtin.copy_ #[37, 37] ty #[.slice (some ⟨b, o1, none⟩) l1 c1', .slice (some ⟨b, o2, none⟩) l2 c2]).run Tryd.prog W = .ok (goInt ((n - i : Nat) : Int)) (W.setCells b ((i + m)) (xs.drop (i))) := fun W o1 l1 c1' o2 l2 c2 ty h1 h2 h3 h4 hh => by
      subst o1; subst o2; subst l1
      have hdl2 : (xs.drop (i)).length = n - i := by rw [hdl]
      have h := run_copy_cells (P := Tryd.prog) W 37 37 ty 5 b ((i + m)) (n - i) c1' ⟨b, i, none⟩ l2 c2 (xs.drop (i)) Tryd.underlying37 hsz (by rw [hdl2]; exact (Nat.min_eq_right h4).symm) (cells_fz hh _ _ hsrcB) (fun j hj => cell_some hh (by rw [hdl2] at hj; omega)) (fun j hj => frozen_fz hh (by rw [hdl2] at hj; omega)) (fun u hu => HX1.out u (List.mem_of_mem_drop hu))
      rw [hdl2] at h
      exact h
    obtain ⟨R1, hR1⟩ : ∃ R1, R1 = splice cl ((i + m)) (xs.drop (i)) := ⟨_, rfl⟩
    have hR1l : R1.length = cl.length := by rw [hR1]; exact length_splice _ _ _ (by rw [hdl]; omega)
    have hcp2 : ∀ (W : World) o1 l1 c1' c2 ty, o1 = i → m ≤ l1 → W.heap[b]? = some (.cells R1.toArray 5 (c, c + 1)) → W.heap[g]? = some (.cells vs.toArray 5 (0, 0)) → (Builtin.copy_ #[37, 37] ty #[.slice (some ⟨b, o1, none⟩) l1 c1', .slice (some ⟨g, 0, none⟩) m c2]).run Tryd.prog W = .ok (goInt (m : Int)) (W.setCells b (i) vs) := fun W o1 l1 c1' c2 ty h1 h3 hh hg => by
      subst o1
      have hvl2 : vs.length = m := by rw [hvl]
      have h := run_copy_cells (P := Tryd.prog) W 37 37 ty 5 b (i) l1 c1' ⟨g, 0, none⟩ m c2 vs Tryd.underlying37 hsz (by rw [hvl2]; exact (Nat.min_eq_left h3).symm) (cells_of hg 0 _ (fun j u hj => by rw [Nat.zero_add]; exact hj)) (fun j hj => cell_some hh (by rw [hvl2] at hj; omega)) (fun j hj => frozen_fz hh (by rw [hvl2] at hj; omega)) (fun u hu => HV1.out u hu)
      rw [hvl2] at h
      exact h
    obtain ⟨R2, hR2⟩ : ∃ R2, R2 = splice R1 (i) vs := ⟨_, rfl⟩
    have HR2l := Aside0.mk (show R2.length = c by rw [hR2, length_splice _ _ _ (by rw [hR1l, hvl]; omega), hR1l, hcs])
    have HRR := Aside0.mk (show R2.take ((n + m)) = xs.take (i) ++ (vs ++ xs.drop (i)) by
      rw [hR2, hR1]
      exact insert_cells cl xs vs (n) (i) (m) hct (by omega) (by rw [hcs]; omega) hvl ((i + m)) (by omega) ((n + m)) (by omega))
    have h1s : ∀ (W : World), W.heap[b]? = some (.cells cl.toArray 5 (c, c + 1)) → (W.setCells b ((i + m)) (xs.drop (i))).heap[b]? = some (.cells R1.toArray 5 (c, c + 1)) := fun W h => by rw [hR1]; exact heap_setCells _ _ _ _ _ _ _ h (by rw [hdl]; omega)
    have h2s : ∀ (W : World), W.heap[b]? = some (.cells R1.toArray 5 (c, c + 1)) → (W.setCells b (i) vs).heap[b]? = some (.cells R2.toArray 5 (c, c + 1)) := fun W h => by rw [hR2]; exact heap_setCells _ _ _ _ _ _ _ h (by rw [hR1l, hvl]; omega)
    have HS2 := Aside0.mk h2s
    have h1g : ∀ (W : World), W.heap[g]? = some (.cells vs.toArray 5 (0, 0)) → (W.setCells b ((i + m)) (xs.drop (i))).heap[g]? = some (.cells vs.toArray 5 (0, 0)) := fun W h => by rw [heap_setCells_other _ _ _ _ _ hgb]; exact h
    have hc2 : ¬ (c < n + m) := by omega
    have hc3 : ¬ ((c : Int) < (n : Int) + (m : Int)) := by omega
    have hc4 : (n : Int) + (m : Int) ≤ (c : Int) := by omega
    have hb3 : (i : Int) ≤ (n : Int) + (m : Int) := by omega
    have hb4 : ¬ (c = i + m) := by omega
    have hb5 : ¬ (c = i) := by omega
    have HSB := Aside0.mk (h1s w.drew hb)
    have HSG := Aside0.mk (h1g w.drew hv)
    have HRN2 := Aside0.mk (fun ty => hcp2 (w.drew.setCells b ((i + m)) (xs.drop (i))) (i) (n + m - i) (c - i) c1 ty (by omega) (by omega) HSB.out HSG.out)
    have HCP1 := Aside0.mk hcp1
    have HCP2 := Aside0.mk hcp2
    have HS1 := Aside0.mk h1s
    have HG1 := Aside0.mk h1g
    have HOV := Aside0.mk hov
    clear hsrcB hR1 hR2 hR1l hcp1 hcp2 h1s h2s h1g hx1 hv1 hB hBb hdl hct hxl hcs hvl hov
    have hovw := fun lb cb o => HOV.out w lb cb hv hb o
    clear hv hb
    go_enter Tryd.func17, Tryd.ntmps17
    go_wp2_with (simp only [hovw])
    go_region_law_o (refine step_copy_runI rfl _ _ 37 37 rfl (.slice (some ⟨b, i + m, none⟩) (n + m - (i + m)) (c - (i + m))) (.slice (some ⟨b, i, none⟩) (n + m - i) (c - i)) (by simp [Act.eval, Act.put]) (by simp [Act.eval, Act.put]) (HCP1.out _ _ _ _ _ _ _ _ (by omega) (by omega) (by omega) (by omega) (by with_unfolding_all exact HBH.out)) ?_)
    go_wp2_with (simp only [HRN2.out])
    go_ret
    refine ⟨⟨b, c, rfl, hroom, fun j u hj => ?_⟩, ?_⟩
    · have hh := HS2.out _ (HS1.out w.drew HBH.out)
      have h3 : R2[j]? = some u := by
        rw [← HRR.out, List.getElem?_take] at hj
        split at hj
        · exact hj
        · cases hj
      refine (blk_cell_fz (by with_unfolding_all exact hh) j).trans ?_
      simpa using h3
    · exact Kb.setCells (.inl HBB.out) _ _ (by with_unfolding_all exact Kb.setCells (.inl HBB.out) _ _ ((Kb.refl (fun j => B ≤ j) w).drew))
  · -- a new row
    have hroom : c < n + m := by omega
    have hz3 : (c : Int) < (n : Int) + (m : Int) := by omega
    obtain ⟨i0, hi0, hz0, hzs, hzb⟩ := info_parts (show (Tryd.prog.info? 5).map (fun i => (i.zero, i.size, i.bytes)) = some (some (.int .u8 0), 1, 1) by kernel_rfl)
    have hkk : (n : Int) + (m : Int) - (i : Int) = ((n + m - i : Nat) : Int) := by omega
    have hwk : IntKind.i64.wrap ((n : Int) + (m : Int) - (i : Int)) = (n : Int) + (m : Int) - (i : Int) := by rw [IntKind.wrap_i64]; omega
    have hik : i + (n + m - i) = n + m := by omega
    have htk : (cl.take (i)) = xs.take (i) := by rw [← hct, List.take_take, Nat.min_eq_left (by omega)]
    have hold : (Builtin.firstCells i0.size i (.slice (some ⟨b, 0, none⟩) i c)).run Tryd.prog w.drew = .ok (xs.take (i)).toArray w.drew := by
      rw [hzs]
      exact run_firstCells_some w.drew 1 i ⟨b, 0, none⟩ i c (xs.take (i)) (by rw [List.length_take, hxl]; omega) (cells_fz (w := w.drew) hb 0 _ (fun j u hj => by
        rw [← htk, List.getElem?_take] at hj
        split at hj
        · rw [Nat.zero_add]; exact hj
        · cases hj))
    obtain ⟨G, hG⟩ : ∃ G, G = grownCap w (n + m) c 5 := ⟨_, rfl⟩
    have hGn : n + m ≤ G := by rw [hG]; exact grownCap_ge w _ _ _
    have hG63 : G ≤ 9223372036854775807 := by
      have := grownCap_le_maxLen w (n + m) c 5 (by unfold maxLen; omega)
      rw [← hG] at this
      unfold maxLen at this
      omega
    obtain ⟨RL, hRL⟩ : ∃ RL : List Value, RL = xs.take (i) ++ ((Builtin.zeroCells (.int .u8 0 : Value).cells (n + m - i)).toList ++ (Builtin.zeroCells (.int .u8 0 : Value).cells (G - (n + m))).toList) := ⟨_, rfl⟩
    have hrz : ∀ ty, (Builtin.append_ #[37, 3] ty #[.slice (some ⟨b, 0, none⟩) i c, .int .i64 ((n : Int) + (m : Int) - (i : Int))]).run Tryd.prog w =
        .ok (.slice (some ⟨w.heap.size, 0, none⟩) (n + m) G) (w.drew.alloc (.cells RL.toArray 5)) := fun ty => by
      have h := Lib.run_append_grow_zeros w 37 3 ty 5 i0 _ .i64 .i64 Tryd.underlying37 Tryd.underlying3 hi0 hz0 (some ⟨b, 0, none⟩) i c (xs.take (i)) hold (n + m - i) (by omega) (by omega) (by omega) (by omega) (by rw [hzb]; omega) (by rw [hzb, hik]; exact growslice_fits hroom (by omega))
      rw [hik, ← hG] at h
      rw [hkk, h, hRL]
      congr 4
      simp
    have hzl : ∀ q, (Builtin.zeroCells (.int .u8 0 : Value).cells q).toList.length = q := fun q => by simp [Builtin.zeroCells, Value.cells]
    have hRLl : RL.length = G := by
      rw [hRL, List.length_append, List.length_append, hzl, hzl, List.length_take, hxl]
      omega
    have hcpA : ∀ (W : World) o1 l1 c1' c2 ty, o1 = i → m ≤ l1 → W.heap[w.heap.size]? = some (.cells RL.toArray 5 (0, 0)) → W.heap[g]? = some (.cells vs.toArray 5 (0, 0)) → (Builtin.copy_ #[37, 37] ty #[.slice (some ⟨w.heap.size, o1, none⟩) l1 c1', .slice (some ⟨g, 0, none⟩) m c2]).run Tryd.prog W = .ok (goInt (m : Int)) (W.setRow w.heap.size (splice RL (i) vs).toArray) := fun W o1 l1 c1' c2 ty h1 h3 hh hg => by
      subst o1
      exact run_copy_k W 37 37 ty 5 1 w.heap.size _ _ _ _ _ _ RL 5 _ Tryd.underlying37 hsz hh m (Nat.min_eq_left h3) (by rw [hvl, Nat.mul_one]) (cells_of hg 0 _ (fun j u hj => by rw [Nat.zero_add]; exact hj)) (by rw [hRLl, hvl]; omega) (fun u hu => HV1.out u hu)
    obtain ⟨R1, hR1⟩ : ∃ R1, R1 = splice RL (i) vs := ⟨_, rfl⟩
    have hR1l : R1.length = G := by rw [hR1, length_splice _ _ _ (by rw [hRLl, hvl]; omega), hRLl]
    rw [← hR1] at hcpA
    have hcpB : ∀ (W : World) o1 l1 c1' o2 l2 c2 ty, o1 = (i + m) → o2 = i → l1 = n - i → n - i ≤ l2 → W.heap[w.heap.size]? = some (.cells R1.toArray 5 (0, 0)) → W.heap[b]? = some (.cells cl.toArray 5 (c, c + 1)) → (Builtin.copy_ #[37, 37] ty #[.slice (some ⟨w.heap.size, o1, none⟩) l1 c1', .slice (some ⟨b, o2, none⟩) l2 c2]).run Tryd.prog W = .ok (goInt ((n - i : Nat) : Int)) (W.setRow w.heap.size (splice R1 ((i + m)) (xs.drop (i))).toArray) := fun W o1 l1 c1' o2 l2 c2 ty h1 h2 h3 h4 hh hbb => by
      subst o1; subst o2; subst l1
      exact run_copy_k W 37 37 ty 5 1 w.heap.size ((i + m)) _ _ ⟨b, i, none⟩ _ _ R1 5 _ Tryd.underlying37 hsz hh (n - i) (Nat.min_eq_right h4) (by rw [hdl, Nat.mul_one]) (cells_fz hbb _ _ hsrcB) (by rw [hR1l, hdl]; omega) (fun u hu => HX1.out u (List.mem_of_mem_drop hu))
    obtain ⟨R2, hR2⟩ : ∃ R2, R2 = splice R1 ((i + m)) (xs.drop (i)) := ⟨_, rfl⟩
    have HR2l := Aside0.mk (show R2.length = G by rw [hR2, length_splice _ _ _ (by rw [hR1l, hdl]; omega), hR1l])
    rw [← hR2] at hcpB
    have HRR := Aside0.mk (show R2.take ((n + m)) = xs.take (i) ++ (vs ++ xs.drop (i)) by
      rw [hR2, hR1, hRL]
      exact insert_fresh xs vs _ (n) (i) (m) hxl (by omega) hvl ((i + m)) (by omega) ((n + m)) (by omega) (by rw [List.length_append, hzl, hzl]; omega))
    have hN0 : (w.alloc (.cells RL.toArray 5)).heap[w.heap.size]? = some (.cells RL.toArray 5 (0, 0)) := World.alloc_heap_new w _
    have hO0 : ∀ q o, w.heap[q]? = some o → (w.alloc (.cells RL.toArray 5)).heap[q]? = some o := fun q o h => (Below.heap_alloc _ _ _ (by have := blk_lt h; omega)).trans h
    have hO1 : ∀ (W : World) q o, q ≠ w.heap.size → W.heap[q]? = some o → (W.setRow w.heap.size R1.toArray).heap[q]? = some o := fun W q o hq h => by rw [setRow_other _ _ _ _ hq]; exact h
    have hGi : ¬ (G = i) := by omega
    have hGim : ¬ (G = i + m) := by omega
    have hci : ¬ (c = i) := by omega
    have hb3 : (i : Int) ≤ (n : Int) := by omega
    have hb6 : (i : Int) + (m : Int) ≤ (n : Int) + (m : Int) := by omega
    have HRZ := Aside0.mk hrz
    have HCPA := Aside0.mk hcpA
    have HRNA := Aside0.mk (fun ty => hcpA (w.alloc (.cells RL.toArray 5)).drew (i) (n + m - i) (G - i) c1 ty (by omega) (by omega) hN0 (hO0 g _ hv))
    have HCPB := Aside0.mk hcpB
    have HN0 := Aside0.mk hN0
    have HVN := Aside0.mk (hO0 g _ hv)
    have HBN := Aside0.mk (hO0 b _ hb)
    have HN1 := Aside0.mk (setRow_heap (w.alloc (.cells RL.toArray 5)).drew w.heap.size _ R1.toArray _ _ hN0)
    have HB1 := Aside0.mk (hO1 (w.alloc (.cells RL.toArray 5)).drew b _ (by omega) (hO0 b _ hb))
    clear hkk hik htk hold hG hRL hrz hzl hRLl hcpA hcpB hR1 hR2 hR1l hN0 hO0 hO1 hsrcB hdl hct hxl hcs hvl hx1 hv1 hB hBb hv hb hi0 hz0 hzs hzb
    go_enter Tryd.func17, Tryd.ntmps17
    go_wp2_with (first
      | (at_builtin; refine Lib.wpList_append_run _ rfl _ _ _ _ rfl _ _ rfl rfl _ _ (HRZ.out _) ?_)
      | (simp only [HRNA.out]))
    go_region_law_o (refine step_copy_runI rfl _ _ 37 37 rfl (.slice (some ⟨w.heap.size, i + m, none⟩) (n + m - (i + m)) (G - (i + m))) (.slice (some ⟨b, i, none⟩) (n - i) (c - i)) (by simp [Act.eval, Act.put]) (by simp [Act.eval, Act.put]) (HCPB.out _ _ _ _ _ _ _ _ (by omega) (by omega) (by omega) (by omega) (by with_unfolding_all exact HN1.out) (by with_unfolding_all exact HB1.out)) ?_)
    go_wp2
    go_ret
    refine ⟨⟨w.heap.size, G, rfl, by omega, fun j u hj => ?_⟩, ?_⟩
    · have h3 : R2[j]? = some u := by
        rw [← HRR.out, List.getElem?_take] at hj
        split at hj
        · exact hj
        · cases hj
      refine (blk_cell (setRow_heap _ w.heap.size _ _ _ _ (by with_unfolding_all exact HN1.out)) j).trans ?_
      simpa using h3
    · exact Kb.setRow (Kb.drew (Kb.setRow (Kb.drew ((Kb.refl (fun j => B ≤ j) w).alloc _)) (.inr (Nat.le_refl _)) _)) (.inr (Nat.le_refl _)) _
end Go.Proofs.YtkkaaipiaandaaaDoor.PC
