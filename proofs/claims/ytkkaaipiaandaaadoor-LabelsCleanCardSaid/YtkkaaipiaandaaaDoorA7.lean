/- slices.DeleteFunc at labels; labels.Of. -/
import Derived.Test.YtkkaaipiaandaaaDoorA6
namespace Go.Proofs.YtkkaaipiaandaaaDoor.PC
open Go.RowKit Go.Lib Go.Shelf Go.Maps Go.Proofs.YtkkaaipiaandaaaDoorW.PrintWords Go.Proofs.YtkkaaipiaandaaaDoorW.PrintLast Go.Proofs.YtkkaaipiaandaaaDoorW.PrintMore
set_option linter.unusedVariables false
set_option linter.unusedSimpArgs false
theorem cellsB_set : ∀ (l : List PB) (i : Nat) (p : PB), cellsB (l.set i p) = ((cellsB l).set (i * 2) (.string p.1)).set (i * 2 + 1) (.string p.2)
  | [], i, p => by simp [cellsB]
  | q :: l, 0, p => rfl
  | q :: l, i + 1, p => by
    rw [show (i + 1) * 2 = i * 2 + 1 + 1 by omega, show i * 2 + 1 + 1 + 1 = (i * 2 + 1) + 1 + 1 by omega]
    show _ :: _ :: cellsB (l.set i p) = _ :: _ :: (((cellsB l).set (i * 2) _).set (i * 2 + 1) _)
    rw [cellsB_set l i p]
theorem row_set {B : Nat} {W : World} {l : List PB} {g n c : Nat} (h : RowP B W 36 (.slice (some ⟨g, 0, none⟩) n c) l) (i : Nat) (p : PB) : RowP B ((W.setCell ⟨g, i * 2, none⟩ (.string p.1)).setCell ⟨g, i * 2 + 1, none⟩ (.string p.2)) 36 (.slice (some ⟨g, 0, none⟩) n c) (l.set i p) := by
  have h2 := h.2
  unfold RowP World.ownsRow
  rw [List.length_set, cellsB_set]
  refine ⟨by rw [List.length_set, List.length_set]; exact h.1, .inr ?_⟩
  rcases h2 with ⟨h1, -⟩ | ⟨g', cap, cur, h1, h2, h3, h4, h5, h6, h7⟩
  · cases h1
  · cases h1
    refine ⟨g, c, (cur.setIfInBounds (i * 2) (.string p.1)).setIfInBounds (i * 2 + 1) (.string p.2), rfl, h2, blk_put (blk_put h3 _ _ rfl) _ _ rfl, h4, h5, by rw [Array.size_setIfInBounds, Array.size_setIfInBounds]; exact h6, ?_⟩
    rw [Array.toList_setIfInBounds, Array.toList_setIfInBounds, List.take_set, List.take_set, h7]
theorem run_clear_k {P : Program} (w : World) (T ty elem : TypeId) (k : Nat) (z : Value) (g o n c : Nat) (cur : List Value) (t : TypeId)
    (hu : P.underlying T = some (.slice elem)) (hz : ∀ w, (zeroValue elem).run P w = .ok z w) (hk : z.cells.size = k) (h1z : ∀ v ∈ (Builtin.zeroCells z.cells n).toList, v.oneCell' = true)
    (hg : w.heap[g]? = some (.cells cur.toArray t (0, 0))) (hn : 0 < n) (hfit : o + n * k ≤ cur.length) :
    (Builtin.clear_ #[T] ty #[.slice (some ⟨g, o, none⟩) n c]).run P w = .ok (.tuple #[]) (w.setRow g (splice cur o (Builtin.zeroCells z.cells n).toList).toArray) := by
  have hst := run_storeCells_at P g o t (Builtin.zeroCells z.cells n).toList 0 cur.toArray w hg (by simp [Builtin.zeroCells, hk]; omega) h1z
  obtain ⟨m, rfl⟩ : ∃ m, n = m + 1 := ⟨n - 1, by omega⟩
  simp [Builtin.clear_, run_underlying hu, hz, hst, splice]
/-- What stands behind i is of no account. -/
theorem row_cut {B : Nat} {W W' : World} {C : List PB} {b n c i : Nat} (h : RowP B W 36 (.slice (some ⟨b, 0, none⟩) n c) C) (hi : i ≤ C.length) (R : List Value) (hR : W'.heap[b]? = some (.cells R.toArray 36 (0, 0))) (hl : R.length = c * 2) (ht : R.take (i * 2) = (cellsB C).take (i * 2)) : RowP B W' 36 (.slice (some ⟨b, 0, none⟩) i c) (C.take i) := by
  have h2 := h.2
  have h1 := h.1
  rcases h2 with ⟨h3, -⟩ | ⟨g', cap, cur, h3, h4, h5, h6, h7, h8, h9⟩
  · cases h3
  · cases h3
    unfold RowP World.ownsRow
    rw [List.length_take, Nat.min_eq_left hi]
    refine ⟨by rw [cellsB_take, List.length_take, cellsB_len]; omega, .inr ⟨b, c, R.toArray, rfl, h4, hR, by omega, h7, by rw [List.size_toArray]; exact hl, ?_⟩⟩
    rw [cellsB_take]
    simpa using ht
theorem row_frozen {B : Nat} {W : World} {e : TypeId} {C : List PB} {b n c : Nat} (h : RowP B W e (.slice (some ⟨b, 0, none⟩) n c) C) (x : Nat) : W.frozen? ⟨b, x, none⟩ = false := by
  rcases h.2 with ⟨h1, -⟩ | ⟨g', cap, cur, h3, h4, h5, -⟩
  · cases h1
  · cases h3
    exact frozen_of h5
theorem row_block {B : Nat} {W : World} {C : List PB} {b n c : Nat} (h : RowP B W 36 (.slice (some ⟨b, 0, none⟩) n c) C) : ∃ cl : List Value, W.heap[b]? = some (.cells cl.toArray 36 (0, 0)) ∧ cl.length = c * 2 := by
  rcases h.2 with ⟨h1, -⟩ | ⟨g', cap, cur, h3, h4, h5, h6, h7, h8, h9⟩
  · cases h1
  · cases h3
    exact ⟨cur.toList, by simpa using h5, by rw [Array.length_toList]; exact h8⟩
theorem row_cells {B : Nat} {W : World} {C : List PB} {b n c : Nat} (h : RowP B W 36 (.slice (some ⟨b, 0, none⟩) n c) C) {cl : List Value} (hc : W.heap[b]? = some (.cells cl.toArray 36 (0, 0))) (k : Nat) (hk : k ≤ C.length * 2) : cl.take k = (cellsB C).take k := by
  rcases h.2 with ⟨h1, -⟩ | ⟨g', cap, cur, h3, h4, h5, h6, h7, h8, h9⟩
  · cases h1
  · cases h3
    rw [hc] at h5
    cases h5
    rw [← h9, List.take_take, Nat.min_eq_left hk]
theorem zero_one (n : Nat) : ∀ u ∈ (Builtin.zeroCells (Value.agg #[.string ⟨#[]⟩, .string ⟨#[]⟩]).cells n).toList, u.oneCell' = true := by
  intro u hu
  simp only [Builtin.zeroCells, Value.cells, Array.toList_map, List.mem_map] at hu
  obtain ⟨i, -, rfl⟩ := hu
  have : i % 2 = 0 ∨ i % 2 = 1 := by omega
  show (#[Value.string ⟨#[]⟩, Value.string ⟨#[]⟩] : Array Value)[i % 2]!.oneCell' = true
  rcases this with h | h <;> rw [h] <;> rfl
theorem filter_take_succ {α : Type} (f : α → Bool) {l : List α} {j : Nat} {p : α} (h : l[j]? = some p) : (l.take (j + 1)).filter f = (l.take j).filter f ++ (if f p = true then [p] else []) := by
  rw [List.take_add_one, h, List.filter_append]
  congr 1
  show List.filter f [p] = _
  cases hf : f p <;> simp [hf]
set_option maxHeartbeats 8000000 in
set_option maxRecDepth 100000 in
theorem delete_calls (l : List PB) (B : Nat) (v : Value) (w : World) (hB : B ≤ w.heap.size) (hr : RowP B w 36 v l) (hl : l.length ≤ 1000000) :
    Calls Tryd.prog 23 #[v, .func (.func 24) #[] #[]] w fun e w' => (∃ v', e = .returned v' ∧ RowP B w' 36 v' (l.filter (fun x => !empB x))) ∧ Kb (fun q => B ≤ q) w w' := by
  have hix := idx58_calls l B v w hr hl
  have HR := Aside0.mk hr
  have HB0 := Aside0.mk hB
  obtain ⟨A, c, rfl, hcl⟩ := own_slice hr
  obtain ⟨nl, hnl⟩ : ∃ nl, nl = l.length := ⟨_, rfl⟩
  rw [← hnl] at hix HR hcl hl ⊢
  have HN := Aside0.mk hnl
  clear hr hB hnl
  go_enter Tryd.func23, Tryd.ntmps23
  go_wp2_with fail
  refine hix.mono ?_
  rintro e w1 ⟨⟨r, rfl, hd⟩, hb⟩
  have HR1 := Aside0.mk (RowP.kb HR.out (Kb.of_below (S := fun _ => False) hb) (fun _ _ h => h))
  have HK1 := Aside0.mk (Kb.of_below (S := fun q => B ≤ q) hb)
  clear hix hb
  rcases hd with ⟨rfl, hall⟩ | ⟨k, p0, rfl, hk0, hp0, hbef⟩
  · have HE := Aside0.mk (show l.filter (fun x => !empB x) = l from List.filter_eq_self.2 (fun x hx => by rw [hall x hx]; rfl))
    clear hall
    go_wp2_with fail
    go_ret
    exact ⟨⟨_, rfl, by rw [HE.out, HN.out] at *; exact HR1.out⟩, HK1.out⟩
  · have hkn : k < nl := by
      rw [HN.out]
      rcases Nat.lt_or_ge k l.length with h | h
      · exact h
      · rw [List.getElem?_eq_none h] at hk0; cases hk0
    obtain ⟨b, rfl, hBb, hbl, -, -⟩ := rowP_get HR.out hk0
    have HBB := Aside0.mk hBb
    have hbw : b < w1.heap.size := by have := HK1.out.size; omega
    have HF0 := Aside0.mk (show (l.take (k + 1)).filter (fun x => !empB x) = l.take k by
      rw [filter_take_succ _ hk0, hp0]
      simp only [Bool.not_true, Bool.false_eq_true, if_false, List.append_nil]
      exact List.filter_eq_self.2 (fun x hx => by rw [hbef x hx]; rfl))
    have hz1 : ¬ (k : Int) = -1 := by omega
    have hwk : IntKind.i64.wrap ((k : Int) + 1) = ((k + 1 : Nat) : Int) := (i64_w _).trans ((w64 (by omega) (by omega)).trans (by omega))
    clear hk0 hp0 hbef
    go_wp2_with fail
    go_loopg [5, 6] nl (fun g1 v5 v6 wr => ∃ (i j : Nat) (C : List PB), v5 = .int .i64 i ∧ v6 = .int .i64 j ∧ i < j ∧ j ≤ nl ∧ b < wr.heap.size ∧ Aside0 (j + g1 = nl + 0 ∨ j + g1 ≤ nl + nl) ∧ Aside0 (nl - j ≤ g1) ∧ Aside0 (C.length = nl ∧ C.take i = (l.take j).filter (fun x => !empB x) ∧ C.drop j = l.drop j) ∧ Aside0 (RowP B wr 36 (.slice (some ⟨b, 0, none⟩) nl c) C) ∧ Aside0 (Kb (fun q => B ≤ q) w wr))
    case atStart => exact ⟨k, k + 1, l, rfl, by first | rfl | rw [hwk], Nat.lt_succ_self _, hkn, hbw, ⟨.inr (by omega)⟩, ⟨by omega⟩, ⟨HN.out.symm, HF0.out.symm, rfl⟩, HR1, HK1⟩
    case round =>
      obtain ⟨i, j, C, rfl, rfl, hij, hjn, hbr, HX, HI, HC, HRC, HK⟩ := hrel
      clear HR1 HK1 HX
      by_cases hlt : j < nl
      · have hz : (j : Int) < (nl : Int) := by omega
        have hwj : IntKind.i64.wrap ((j : Int) + 1) = ((j + 1 : Nat) : Int) := (i64_w _).trans ((w64 (by omega) (by omega)).trans (by omega))
        have hwi : IntKind.i64.wrap ((i : Int) + 1) = ((i + 1 : Nat) : Int) := (i64_w _).trans ((w64 (by omega) (by omega)).trans (by omega))
        obtain ⟨p, hp⟩ : ∃ p, l[j]? = some p := ⟨l[j]'(by rw [← HN.out]; exact hlt), List.getElem?_eq_getElem _⟩
        have hpC : C[j]? = some p := by
          have h1 : (C.drop j)[0]? = (l.drop j)[0]? := by rw [HC.out.2.2]
          rw [List.getElem?_drop, List.getElem?_drop, Nat.add_zero] at h1
          rw [h1, hp]
        obtain ⟨q, hq⟩ : ∃ q, C[i]? = some q := ⟨C[i]'(by rw [HC.out.1]; omega), List.getElem?_eq_getElem _⟩
        obtain ⟨r, hr0, -, -, c0, c1⟩ := rowP_get HRC.out hpC
        cases hr0
        obtain ⟨r, hr0, -, -, d0, d1⟩ := rowP_get HRC.out hq
        cases hr0
        have hfz : ∀ x, wr.frozen? ⟨b, x, none⟩ = false := fun x => row_frozen HRC.out x
        have HFS := Aside0.mk (filter_take_succ (fun x => !empB x) hp)
        have HDS := Aside0.mk (show C.drop (j + 1) = l.drop (j + 1) by rw [← List.drop_drop, ← List.drop_drop, HC.out.2.2])
        have hbn : ¬ wr.heap.size = b := by omega
        have hnb : ¬ b = wr.heap.size := by omega
        have HO := closure58 p (wr.alloc (.cells #[.string p.1, .string p.2] 36))
        have hbx := World.alloc_heap_new wr (.cells #[.string p.1, .string p.2] 36)
        have HRW := Aside0.mk (RowP.kb HRC.out ((Kb.refl (fun _ => False) wr).alloc (.cells #[.string p.1, .string p.2] 36)) (fun _ _ h => h))
        have HKW := Aside0.mk (Kb.alloc HK.out (.cells #[.string p.1, .string p.2] 36))
        clear hp hpC hq
        cases hd : empB p with
        | true =>
          rw [hd] at HO HFS
          clear hd
          go_wp2_with fail
          refine HO.mono ?_
          rintro e w2 ⟨rfl, hb2⟩
          have HR2 := Aside0.mk (RowP.kb HRW.out (Kb.of_below (S := fun _ => False) hb2) (fun _ _ h => h))
          have HK2 := Aside0.mk (Kb.below HKW.out hb2)
          have hbr2 : b < w2.heap.size := by have := hb2.size; simp only [World.size_alloc] at this; omega
          clear hb2 hbx HRW HKW HO c0 c1 d0 d1 hfz HRC
          go_wp2_with fail
          go_roundg (nl - (j + 1))
          case measure => have := HI.out; omega
          case rel => exact ⟨i, j + 1, C, rfl, by first | rfl | rw [hwj], by omega, hlt, hbr2, ⟨.inr (by omega)⟩, ⟨Nat.le_refl _⟩, ⟨HC.out.1, by rw [HFS.out, HC.out.2.1]; simp, HDS.out⟩, HR2, HK2⟩
        | false =>
          rw [hd] at HO HFS
          clear hd
          go_wp2_with fail
          refine HO.mono ?_
          rintro e w2 ⟨rfl, hb2⟩
          have HR2 := Aside0.mk (RowP.kb HRW.out (Kb.of_below (S := fun _ => False) hb2) (fun _ _ h => h))
          have HK2 := Aside0.mk (Kb.below HKW.out hb2)
          have hbr2 : b < w2.heap.size := by have := hb2.size; simp only [World.size_alloc] at this; omega
          have hkb2 := Kb.of_below (S := fun _ => False) (below_then (below_alloc (Below.refl wr.heap.size wr) (.cells #[.string p.1, .string p.2] 36)) hb2)
          have e0 := Kb.cell d0 hkb2 (fun h => h)
          have e1 := Kb.cell d1 hkb2 (fun h => h)
          have hbx2 := Kb.blk hbx (Kb.of_below (S := fun _ => False) hb2) (fun h => h)
          have f0 := (blk_cell hbx2 0).trans rfl
          have f1 := (blk_cell hbx2 1).trans rfl
          have hfz2 : ∀ x, w2.frozen? ⟨b, x, none⟩ = false := fun x => row_frozen HR2.out x
          have g0 := hfz2 (i * 2)
          have g1' := hfz2 (i * 2 + 1)
          have HSET := Aside0.mk (row_set HR2.out i p)
          have HKS := Aside0.mk (Kb.setCell (Kb.setCell HK2.out (p := ⟨b, i * 2, none⟩) (.inl HBB.out) (.string p.1)) (p := ⟨b, i * 2 + 1, none⟩) (.inl HBB.out) (.string p.2))
          have HTK := Aside0.mk (show (C.set i p).take (i + 1) = C.take i ++ [p] by
            rw [List.take_add_one, List.getElem?_set_self (by rw [HC.out.1]; omega), List.take_set_of_le (Nat.le_refl _)]
            rfl)
          clear hb2 hbx HRW HKW HO c0 c1 d0 d1 hfz HRC hkb2 hbx2 hfz2
          go_wp2_with fail
          go_roundg (nl - (j + 1))
          case measure => have := HI.out; omega
          case rel => exact ⟨i + 1, j + 1, C.set i p, by first | rfl | rw [hwi], by first | rfl | rw [hwj], by omega, hlt, by simpa [World.setCell] using hbr2, ⟨.inr (by omega)⟩, ⟨Nat.le_refl _⟩, ⟨by rw [List.length_set]; exact HC.out.1, by rw [HFS.out, ← HC.out.2.1, HTK.out]; rfl, by rw [List.drop_set_of_lt (by omega)]; exact HDS.out⟩, HSET, HKS⟩
      · have hz : ¬ (j : Int) < (nl : Int) := by omega
        obtain rfl : j = nl := by omega
        obtain ⟨cl, hcr, hcll⟩ := row_block HRC.out
        have hin : i < j := hij
        have hcn : j ≤ c := hcl
        have hzl : (Builtin.zeroCells (Value.agg #[.string ⟨#[]⟩, .string ⟨#[]⟩]).cells (j - i)).toList.length = (j - i) * 2 := by simp [Builtin.zeroCells, Value.cells]
        have hclr : ∀ ty, (Builtin.clear_ #[25] ty #[.slice (some ⟨b, i * 2, none⟩) (j - i) (c - i)]).run Tryd.prog wr = .ok (.tuple #[]) (wr.setRow b (splice cl (i * 2) (Builtin.zeroCells (Value.agg #[.string ⟨#[]⟩, .string ⟨#[]⟩]).cells (j - i)).toList).toArray) := fun ty =>
          run_clear_k wr 25 ty 36 2 _ b (i * 2) (j - i) (c - i) cl 36 Tryd.underlying25 Tryd.zeroValue36 rfl (fun u hu => zero_one _ u hu) hcr (by omega) (by rw [hcll]; omega)
        obtain ⟨R, hR⟩ : ∃ R, R = splice cl (i * 2) (Builtin.zeroCells (Value.agg #[.string ⟨#[]⟩, .string ⟨#[]⟩]).cells (j - i)).toList := ⟨_, rfl⟩
        rw [← hR] at hclr
        have HRES := Aside0.mk (row_cut (W' := wr.setRow b R.toArray) HRC.out (i := i) (by rw [HC.out.1]; omega) R (setRow_heap wr b _ _ _ _ hcr) (by rw [hR, length_splice _ _ _ (by rw [hzl, hcll]; omega)]; exact hcll) (by
          rw [hR]
          unfold splice
          rw [List.take_append_of_le_length (by rw [List.length_take, hcll]; omega), List.take_take, Nat.min_self]
          exact row_cells HRC.out hcr (i * 2) (by rw [HC.out.1]; omega)))
        have HEQ := Aside0.mk (show C.take i = l.filter (fun x => !empB x) by rw [HC.out.2.1, List.take_of_length_le (by rw [← HN.out]; exact Nat.le_refl _)])
        have HKF := Aside0.mk (Kb.setRow HK.out (.inl HBB.out) R.toArray)
        have hll : (l.filter (fun x => !empB x)).length = i := by
          rw [← HEQ.out, List.length_take, HC.out.1]
          omega
        have HLL := Aside0.mk hll
        have HCLR := Aside0.mk hclr
        have hci : ¬ (c = i) := by omega
        clear hclr hR hzl hcr hcll hll
        go_wp2_with (simp only [HCLR.out])
        go_ret
        refine ⟨⟨_, rfl, ?_⟩, HKF.out⟩
        rw [← HEQ.out]
        exact HRES.out
end Go.Proofs.YtkkaaipiaandaaaDoor.PC
