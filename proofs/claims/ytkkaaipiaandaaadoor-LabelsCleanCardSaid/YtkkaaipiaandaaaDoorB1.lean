/- labels.Clean. -/
import Derived.Test.YtkkaaipiaandaaaDoorA9
import Derived.Laws.IdiomStrings
import Derived.Lib.AtoiErrMem
namespace Go.Proofs.YtkkaaipiaandaaaDoor.PC
open Go.RowKit Go.Lib Go.Shelf Go.Maps Go.Proofs.YtkkaaipiaandaaaDoorW.PrintWords Go.Proofs.YtkkaaipiaandaaaDoorW.PrintLast Go.Proofs.YtkkaaipiaandaaaDoorW.PrintMore
attribute [local go_sem] max2_int min2_int max_two min_two
set_option linter.unusedVariables false
set_option linter.unusedSimpArgs false
/-- A byte's value. -/
def byV (b : UInt8) : Value := .int .u8 (b.toNat : Int)
def clB (b : UInt8) : UInt8 := if nameB (b.toNat : Int) = true then b else 95
/-- Must one stand ahead? -/
def headB (l : List UInt8) : Bool := l.isEmpty || digB ((l.getD 0 0).toNat : Int)
/-- labels.Clean, plainly. -/
def cleanP (l : List UInt8) : List UInt8 := (if headB (l.map clB) = true then 95 :: l.map clB else l.map clB).take 64
theorem byV_one (l : List UInt8) : ∀ u ∈ l.map byV, u.oneCell' = true := by
  intro u hu
  obtain ⟨b, -, rfl⟩ := List.mem_map.1 hu
  rfl
/-- Bytes, wherever they lie. -/
def CellsY (w : World) (g : Nat) (l : List UInt8) : Prop := ∀ j u, (l.map byV)[j]? = some u → w.cell? ⟨g, j, none⟩ = some u
theorem cellsY_back {w : World} {g c : Nat} {l : List UInt8} (h : CellsY w g l) : (convert 37 9 (.slice (some ⟨g, 0, none⟩) l.length c)).run Tryd.prog w = .ok (.string ⟨l.toArray⟩) w := by
  refine run_convert_bytes_back w 37 9 5 ⟨g, 0, none⟩ c l Tryd.underlying37 Tryd.underlying5 Tryd.underlying9 (fun j hj => ?_)
  rw [Addr.add_lit, Nat.zero_add]
  exact h j _ (by rw [List.getElem?_map, List.getElem?_eq_getElem hj]; rfl)
theorem cellsY_take {w : World} {g : Nat} {l : List UInt8} (h : CellsY w g l) (k : Nat) : CellsY w g (l.take k) := by
  intro j u hj
  rw [List.map_take, List.getElem?_take] at hj
  split at hj
  · exact h j u hj
  · cases hj
theorem set_same {α : Type} : ∀ {l : List α} {i : Nat} {a : α}, l[i]? = some a → l.set i a = l
  | [], _, _, h => by cases h
  | x :: l, 0, a, h => by cases h; rfl
  | x :: l, i + 1, a, h => by
    rw [List.set_cons_succ, set_same (l := l) (i := i) h]
theorem blk_lt_any {w : World} {g : Nat} {o : Obj} (h : w.heap[g]? = some o) : g < w.heap.size := (Array.getElem?_eq_some_iff.1 h).1
theorem conv_block (w : World) (s : ByteArray) : ∃ cl : List Value, (Lib.bytesWorld w 5 s).heap[w.heap.size]? = some (.cells cl.toArray 5 (grownCap w s.size 0 5, grownCap w s.size 0 5 + 1)) ∧ cl.length = grownCap w s.size 0 5 ∧ cl.take s.size = s.data.toList.map byV := by
  have hge := grownCap_ge w s.size 0 5
  have hsz : (Lib.bytesCells w 5 s).size = grownCap w s.size 0 5 := by
    have : s.data.size = s.size := rfl
    simp [Lib.bytesCells, this]
    omega
  refine ⟨(Lib.bytesCells w 5 s).toList, ?_, by rw [Array.length_toList, hsz], ?_⟩
  · have h := Lib.bytesWorld_at_new w 5 s
    rw [hsz] at h
    simpa using h
  · unfold Lib.bytesCells
    rw [Array.toList_append, List.take_append_of_le_length (by simp), List.take_of_length_le (by simp), Array.toList_map]
    rfl
set_option maxHeartbeats 8000000 in
set_option maxRecDepth 100000 in
/-- slices.Insert behind the last byte. -/
theorem insE_calls (B g b c c1 n m : Nat) (cl vs : List Value) (w : World) (hB : B ≤ w.heap.size) (hBb : B ≤ b) (hb : w.heap[b]? = some (.cells cl.toArray 5 (c, c + 1))) (hcs : cl.length = c) (hnc1 : n ≤ c) (hcm : c ≤ 9223372036854775807) (hm : 0 < m) (hmc : m ≤ 1000000) (hnc : n ≤ 1000000) (hx1 : ∀ u ∈ cl.take n, u.oneCell' = true) (hv1 : ∀ u ∈ vs, u.oneCell' = true)
    (hv : w.heap[g]? = some (.cells vs.toArray 5 (0, 0))) (hvl : vs.length = m) (hgb : g ≠ b) :
    Calls Tryd.prog 17 #[.slice (some ⟨b, 0, none⟩) n c, .int .i64 n, .slice (some ⟨g, 0, none⟩) m c1] w fun e w' => (∃ g' c', e = .returned (.slice (some ⟨g', 0, none⟩) (n + m) c') ∧ n + m ≤ c' ∧ ∀ j u, (cl.take n ++ vs)[j]? = some u → w'.cell? ⟨g', j, none⟩ = some u) ∧ Kb (fun j => B ≤ j) w w' := by
  have mixed : Tryd.prog.follows .mixedOrders = true := by kernel_rfl
  have hz1 : ¬ ((m : Int) = 0) := by omega
  have hinfo : (Tryd.prog.info? 5).map (fun i => (i.zero, i.size, i.bytes)) = some (some (.int .u8 0), 1, 1) := by kernel_rfl
  have hsrc : Src Tryd.prog 1 37 (.slice (some ⟨g, 0, none⟩) m c1) m vs w := Src.ofSlice w Tryd.underlying37 ⟨g, 0, none⟩ m c1 vs (by rw [hvl, Nat.mul_one]) (cells_of hv 0 _ (fun j u hj => by rw [Nat.zero_add]; exact hj)) hv1
  by_cases hroom : n + m ≤ c
  · have hsp : ∀ j, j < vs.length → (w.cell? ⟨b, 0 + n + j, none⟩).isSome = true := fun j hj => cell_some hb (by rw [hvl] at hj; omega)
    have hfz : ∀ j, j < vs.length → w.frozen? ⟨b, 0 + n + j, none⟩ = false := fun j hj => frozen_fz hb (by rw [hvl] at hj; omega)
    have HSP := Aside0.mk (And.intro hsp (And.intro hfz hsrc))
    have HI := Aside0.mk hinfo
    have HN := Aside0.mk (heap_setCells b 5 (c, c + 1) vs n cl w hb (by rw [hcs, hvl]; omega))
    have HK := Aside0.mk (Kb.setCells (S := fun j => B ≤ j) (w := w) (g := b) (.inl hBb) vs n (Kb.refl _ w))
    have HT := Aside0.mk (show (splice cl n vs).take (n + m) = cl.take n ++ vs by
      unfold splice
      rw [← List.append_assoc]
      exact List.take_left' (by rw [List.length_append, List.length_take, hvl, hcs]; omega))
    clear hsp hfz hsrc hinfo hb hv hvl hx1 hv1 hB hBb hcs
    go_enter Tryd.func17, Tryd.ntmps17
    go_wp2_with (at_builtin; refine wpList_append_room1 _ rfl _ _ 37 37 rfl 5 _ _ Tryd.underlying37 HI.out b 0 n c rfl _ rfl m vs HSP.out.2.2 hroom HSP.out.1 HSP.out.2.1 ?_)
    go_ret
    refine ⟨⟨b, c, rfl, hroom, fun j u hj => ?_⟩, HK.out⟩
    have h3 : (splice cl n vs)[j]? = some u := by
      rw [← HT.out, List.getElem?_take] at hj
      split at hj
      · exact hj
      · cases hj
    exact (blk_cell_fz HN.out j).trans (by simpa using h3)
  · obtain ⟨i0, hi0, hz0, hzs, hzb⟩ := info_parts hinfo
    have hold : (Builtin.firstCells i0.size n (.slice (some ⟨b, 0, none⟩) n c)).run Tryd.prog w.drew = .ok (cl.take n).toArray w.drew := by
      rw [hzs]
      exact run_firstCells_some w.drew 1 n ⟨b, 0, none⟩ n c (cl.take n) (by rw [List.length_take]; omega) (cells_fz (w := w.drew) hb 0 _ (fun j u hj => by
        rw [List.getElem?_take] at hj
        split at hj
        · rw [Nat.zero_add]; exact hj
        · cases hj))
    have hrun : ∀ ty, (Builtin.append_ #[37, 37] ty #[.slice (some ⟨b, 0, none⟩) n c, .slice (some ⟨g, 0, none⟩) m c1]).run Tryd.prog w = _ := fun ty =>
      run_append_grow_src w 37 37 ty 5 i0 _ Tryd.underlying37 hi0 hz0 (some ⟨b, 0, none⟩) n c (cl.take n) hold _ m vs (by rw [hzs]; exact hsrc) (by omega) (by omega) (by rw [hzb]; exact growslice_fits (by omega) (by omega))
    have HR := Aside0.mk hrun
    have HL := Aside0.mk (show (cl.take n ++ vs).length = n + m by rw [List.length_append, List.length_take, hvl]; omega)
    have hnew : ∀ (cs : Array Value) (j : Nat), ((w.alloc (.cells cs 5)).drew).cell? ⟨w.heap.size, j, none⟩ = cs[j]? := fun cs j => blk_cell (World.alloc_heap_new w (.cells cs 5)) j
    clear hsrc hinfo hb hv hvl hx1 hv1 hBb hcs hold hrun hi0 hz0 hzs hzb
    go_enter Tryd.func17, Tryd.ntmps17
    go_wp2_with (at_builtin; refine Lib.wpList_append_run _ rfl _ _ _ _ rfl _ _ rfl rfl _ _ (HR.out _) ?_)
    all_goals go_ret
    all_goals (refine ⟨⟨w.heap.size, _, rfl, grownCap_ge _ _ _ _, fun j u hj => ?_⟩, ?_⟩)
    all_goals (first | exact Kb.drew (Kb.alloc (Kb.refl (fun j => B ≤ j) w) _) | exact Kb.alloc (Kb.drew (Kb.refl (fun j => B ≤ j) w)) _ | skip)
    all_goals (
      have hjl : j < (cl.take n ++ vs).length := (List.getElem?_eq_some_iff.1 hj).1
      refine (hnew _ j).trans ?_
      rw [Array.getElem?_append, if_pos (by simpa using hjl)]
      simpa using hj)
set_option maxHeartbeats 8000000 in
set_option maxRecDepth 100000 in
theorem clean_calls (s : ByteArray) (w : World) (hs : s.size ≤ 999999) : Calls Tryd.prog 5 #[.string s] w fun e w' => (∃ t : ByteArray, e = .returned (.string t) ∧ t.data.toList = cleanP s.data.toList) ∧ Below w.heap.size w w' := by
  have kb := fun W => print_bytes (P := Tryd.prog) 9 37 5 Tryd.underlying9 Tryd.underlying37 Tryd.underlying5 s W
  obtain ⟨cl0, hb0, hc0, ht0⟩ := conv_block w s
  obtain ⟨c, hc⟩ : ∃ c, c = grownCap w s.size 0 5 := ⟨_, rfl⟩
  have hnc : s.size ≤ c := by rw [hc]; exact grownCap_ge _ _ _ _
  have hcm : c ≤ 9223372036854775807 := by
    have := grownCap_le_maxLen w s.size 0 5 (by unfold maxLen; omega)
    rw [← hc] at this
    unfold maxLen at this
    omega
  have hkb := kb w
  rw [← hc] at hb0 hc0 hkb
  obtain ⟨W0, hW0⟩ : ∃ W0, W0 = Lib.bytesWorld w 5 s := ⟨_, rfl⟩
  have HB0 := Aside0.mk (show Below w.heap.size w W0 by rw [hW0]; exact Lib.bytesWorld_below w 5 s)
  rw [← hW0] at hb0 hkb
  have HL := Aside0.mk (show s.data.toList.length = s.size from lk_size s)
  obtain ⟨n, hn⟩ : ∃ n, n = s.size := ⟨_, rfl⟩
  rw [← hn] at hs hnc hkb ht0 HL
  obtain ⟨l, hl⟩ : ∃ l, l = s.data.toList := ⟨_, rfl⟩
  rw [← hl] at ht0 HL ⊢
  have HBLK := Aside0.mk (And.intro hb0 (And.intro hc0 ht0))
  obtain ⟨g, hg⟩ : ∃ g, g = w.heap.size := ⟨_, rfl⟩
  have HG := Aside0.mk hg
  rw [← hg] at hkb HBLK HB0 ⊢
  clear hb0 hc0 ht0 hc hn hW0 kb hl hg
  go_enter Tryd.func5, Tryd.ntmps5
  go_wp2_with fail
  go_loopg [10] n (fun g1 v10 wr => ∃ (i : Nat) (cl : List Value), v10 = .int .i64 i ∧ i ≤ n ∧ Aside0 (i + g1 = n) ∧ Aside0 (wr.heap[g]? = some (.cells cl.toArray 5 (c, c + 1)) ∧ cl.length = c ∧ cl.take n = ((l.take i).map clB ++ l.drop i).map byV) ∧ Aside0 (Below g w wr))
  case atStart => exact ⟨0, cl0, rfl, Nat.zero_le _, ⟨by omega⟩, ⟨HBLK.out.1, HBLK.out.2.1, by simpa using HBLK.out.2.2⟩, HB0⟩
  case round =>
    obtain ⟨i, cl, rfl, hin, HI, HC, HB⟩ := hrel
    clear hkb
    by_cases hlt : i < n
    · have hz : (i : Int) < (n : Int) := by omega
      have hwi : IntKind.i64.wrap ((i : Int) + 1) = ((i + 1 : Nat) : Int) := (i64_w _).trans ((w64 (by omega) (by omega)).trans (by omega))
      obtain ⟨b, hb⟩ : ∃ b, l[i]? = some b := ⟨l[i]'(by rw [HL.out]; exact hlt), List.getElem?_eq_getElem _⟩
      have hli : ((l.take i).map clB).length = i := by rw [List.length_map, List.length_take, HL.out]; omega
      have hcl : cl[i]? = some (byV b) := by
        have h1 : (cl.take n)[i]? = some (byV b) := by
          rw [HC.out.2.2, List.getElem?_map, List.getElem?_append_right (by rw [hli]; exact Nat.le_refl _), hli, Nat.sub_self, List.getElem?_drop, Nat.add_zero, hb]
          rfl
        rw [List.getElem?_take, if_pos hlt] at h1
        exact h1
      have hcell : wr.cell? ⟨g, i, none⟩ = some (.int .u8 (b.toNat : Int)) := (blk_cell_fz HC.out.1 i).trans (by rw [List.getElem?_toArray]; exact hcl)
      have hfz : wr.frozen? ⟨g, i, none⟩ = false := frozen_fz HC.out.1 (by omega)
      have HIN := fun W => inname_calls (b.toNat : Int) W
      have HTK := Aside0.mk (show ((l.take (i + 1)).map clB ++ l.drop (i + 1)).map byV = (((l.take i).map clB ++ l.drop i).map byV).set i (byV (clB b)) by
        have hd : l.drop i = b :: l.drop (i + 1) := by
          rw [List.drop_eq_getElem?_toList_append, hb]
          rfl
        rw [List.take_add_one, hb, hd]
        simp only [Option.toList_some, List.map_append, List.map_cons, List.map_nil, List.append_assoc, List.cons_append, List.nil_append]
        rw [List.set_append_right _ _ (by rw [List.length_map, hli]; exact Nat.le_refl _), List.length_map, hli, Nat.sub_self]
        rfl)
      have HSM := Aside0.mk (show (((l.take i).map clB ++ l.drop i).map byV)[i]? = some (byV b) by
        rw [← HC.out.2.2, List.getElem?_take, if_pos hlt]
        exact hcl)
      clear hb hli hcl
      cases hd : nameB (b.toNat : Int) with
      | true =>
        rw [hd] at HIN
        have HE := Aside0.mk (show clB b = b from if_pos hd)
        clear hd
        go_wp2_with (go_at_call 15; refine (HIN _).mono ?_; rintro e w' ⟨rfl, rfl⟩)
        go_roundg (n - (i + 1))
        case measure => have := HI.out; omega
        case rel => exact ⟨i + 1, cl, by first | rfl | rw [hwi], hlt, ⟨by have := HI.out; omega⟩, ⟨HC.out.1, HC.out.2.1, by
          rw [HTK.out, HE.out, HC.out.2.2]
          exact (set_same HSM.out).symm⟩, HB⟩
      | false =>
        rw [hd] at HIN
        have HE := Aside0.mk (show clB b = 95 from if_neg (by rw [hd]; decide))
        have HN := Aside0.mk (heap_setCell_fz HC.out.1 i (.int .u8 95))
        have HKS := Aside0.mk (show Below g w (wr.setCell ⟨g, i, none⟩ (.int .u8 95)) by
          have h1 := Kb.setCell (S := fun j => g ≤ j) (Kb.of_below (S := fun j => g ≤ j) (by rw [← HG.out]; exact HB.out)) (p := ⟨g, i, none⟩) (.inl (Nat.le_refl _)) (.int .u8 95)
          rw [HG.out] at h1 ⊢
          exact h1.to_below (fun k h => h))
        clear hd
        go_wp2_with (go_at_call 15; refine (HIN _).mono ?_; rintro e w' ⟨rfl, rfl⟩)
        go_roundg (n - (i + 1))
        case measure => have := HI.out; omega
        case rel => exact ⟨i + 1, cl.set i (.int .u8 95), by first | rfl | rw [hwi], hlt, ⟨by have := HI.out; omega⟩, ⟨HN.out, by rw [List.length_set]; exact HC.out.2.1, by
          rw [HTK.out, HE.out, List.take_set, HC.out.2.2]
          rfl⟩, HKS⟩
    · have hz : ¬ (i : Int) < (n : Int) := by omega
      obtain rfl : i = n := by omega
      obtain ⟨m, hm⟩ : ∃ m, m = l.map clB := ⟨_, rfl⟩
      have hml : m.length = i := by rw [hm, List.length_map, HL.out]
      have HML := Aside0.mk hml
      have HCM := Aside0.mk (show cl.take i = m.map byV by
        rw [HC.out.2.2, hm, List.take_of_length_le (by rw [HL.out]; exact Nat.le_refl _), List.drop_eq_nil_of_le (by rw [HL.out]; exact Nat.le_refl _), List.append_nil])
      have HCP := Aside0.mk (show cleanP l = (if headB m = true then 95 :: m else m).take 64 by rw [hm]; rfl)
      have HY := Aside0.mk (show CellsY wr g m from fun j u hj => by
        refine (blk_cell_fz HC.out.1 j).trans ?_
        rw [← HCM.out, List.getElem?_take] at hj
        split at hj
        · simpa using hj
        · cases hj)
      clear hm hml
      -- the end, of bytes t in g2
      have fin : ∀ (t : List UInt8) (g2 c2 : Nat) (W : World) (k : Nat), CellsY W g2 t → k = (t.take 64).length → (convert 37 9 (.slice (some ⟨g2, 0, none⟩) k c2)).run Tryd.prog W = .ok (.string ⟨(t.take 64).toArray⟩) W := fun t g2 c2 W k h hk => by
        rw [hk]
        exact cellsY_back (cellsY_take h 64)
      have HFIN := Aside0.mk fin
      clear fin
      by_cases h0 : i = 0
      · -- no byte
        subst h0
        have hm0 : m = [] := List.eq_nil_of_length_eq_zero HML.out
        have HP := Aside0.mk (show cleanP l = ([95] : List UInt8) by rw [HCP.out, hm0]; rfl)
        have hsc := World.alloc_heap_new wr (.cells #[.int .u8 95] 5)
        have hins := insE_calls g wr.heap.size g c 1 0 1 cl [.int .u8 95] (wr.alloc (.cells #[.int .u8 95] 5)) (by have := HB.out.size; have := HG.out; simp only [World.size_alloc]; omega) (Nat.le_refl _) ((Below.heap_alloc _ _ _ (by have := blk_lt_any HC.out.1; omega)).trans HC.out.1) HC.out.2.1 (Nat.zero_le _) hcm (by omega) (by omega) (by omega) (by intro u hu; simp at hu) (by intro u hu; simp at hu; subst hu; rfl) hsc rfl (by have := blk_lt_any HC.out.1; omega)
        have HBA := Aside0.mk (show Below g w (wr.alloc (.cells #[.int .u8 95] 5)) by rw [HG.out]; exact below_alloc (by rw [← HG.out]; exact HB.out) _)
        clear hsc hm0 HI
        go_wp2_with fail
        refine hins.mono ?_
        rintro e w2 ⟨⟨g2, c2, rfl, hc2, hcells⟩, hk⟩
        have hcv := HFIN.out [95] g2 c2 w2 1 (fun j u hj => hcells j u (by rw [List.take_zero, List.nil_append]; exact hj)) rfl
        have HB2 := Aside0.mk (show Below g w w2 by
          have h1 := HBA.out
          rw [HG.out] at h1 hk ⊢
          exact below_kb h1 hk)
        clear hins hcells hk
        go_wp2_with fail
        go_ret
        exact ⟨⟨_, rfl, by rw [HP.out]⟩, HB2.out⟩
      · have hp0 : (0 : Int) < (i : Int) := by omega
        have hne0 : ¬ (i : Int) = 0 := by omega
        obtain ⟨b0, hb0⟩ : ∃ b0, m[0]? = some b0 := ⟨m[0]'(by rw [HML.out]; omega), List.getElem?_eq_getElem _⟩
        have hcell0 : wr.cell? ⟨g, 0, none⟩ = some (.int .u8 (b0.toNat : Int)) := HY.out 0 _ (by rw [List.getElem?_map, hb0]; rfl)
        have HHD := Aside0.mk (show headB m = digB (b0.toNat : Int) by
          unfold headB
          rw [List.getD_eq_getElem?_getD, hb0]
          cases m with
          | nil => cases hb0
          | cons _ _ => rfl)
        have HD := fun W => isdigit_calls (b0.toNat : Int) W
        clear hb0
        cases hdg : digB (b0.toNat : Int) with
        | false =>
          rw [hdg] at HD
          have HP := Aside0.mk (show cleanP l = m.take 64 by rw [HCP.out, HHD.out, hdg]; rfl)
          have HCB := Aside0.mk (fun k => HFIN.out m g c wr k HY.out)
          clear hdg
          obtain ⟨k, hk, hk1⟩ : ∃ k : Nat, (if (64 : Int) < (i : Int) then (64 : Int) else (i : Int)) = (k : Int) ∧ k = (m.take 64).length := by
            rw [List.length_take, HML.out]
            by_cases h : (64 : Int) < (i : Int)
            · exact ⟨64, by rw [if_pos h]; rfl, by omega⟩
            · exact ⟨i, by rw [if_neg h], by omega⟩
          have hkc : k ≤ c := by rw [hk1, List.length_take, HML.out]; omega
          have hcv := HCB.out k hk1
          clear hk1
          go_wp2_with (go_at_call 16; refine (HD _).mono ?_; rintro e w' ⟨rfl, rfl⟩)
          go_ret
          exact ⟨⟨_, rfl, by rw [HP.out]⟩, HB.out⟩
        | true =>
          rw [hdg] at HD
          have HP := Aside0.mk (show cleanP l = (95 :: m).take 64 by rw [HCP.out, HHD.out, hdg]; rfl)
          have hsc := World.alloc_heap_new wr (.cells #[.int .u8 95] 5)
          have hins := insC_calls g wr.heap.size g c 1 i 0 1 cl (m.map byV) [.int .u8 95] (wr.alloc (.cells #[.int .u8 95] 5)) (by have := HB.out.size; have := HG.out; simp only [World.size_alloc]; omega) (Nat.le_refl _) ((Below.heap_alloc _ _ _ (by have := blk_lt_any HC.out.1; omega)).trans HC.out.1) HC.out.2.1 hnc hcm HCM.out (by omega) (by omega) (by omega) (by omega) (byV_one m) (by intro u hu; simp at hu; subst hu; rfl) (0, 0) hsc rfl (by have := blk_lt_any HC.out.1; omega)
          have HBA := Aside0.mk (show Below g w (wr.alloc (.cells #[.int .u8 95] 5)) by rw [HG.out]; exact below_alloc (by rw [← HG.out]; exact HB.out) _)
          clear hsc hdg
          go_wp2_with (go_at_call 16; refine (HD _).mono ?_; rintro e w' ⟨rfl, rfl⟩)
          refine hins.mono ?_
          rintro e w2 ⟨⟨g2, c2, rfl, hc2, hcells⟩, hk⟩
          obtain ⟨k, hk2, hk1⟩ : ∃ k : Nat, (if (64 : Int) < (i : Int) + 1 then (64 : Int) else (i : Int) + 1) = (k : Int) ∧ k = ((95 :: m).take 64).length := by
            rw [List.length_take, List.length_cons, HML.out]
            by_cases h : (64 : Int) < (i : Int) + 1
            · exact ⟨64, by rw [if_pos h]; rfl, by omega⟩
            · exact ⟨i + 1, by rw [if_neg h]; rfl, by omega⟩
          have hkc : k ≤ c2 := by rw [hk1, List.length_take, List.length_cons, HML.out]; omega
          have hcv := HFIN.out (95 :: m) g2 c2 w2 k (fun j u hj => hcells j u (by rw [List.take_zero, List.drop_zero, List.nil_append]; exact hj)) hk1
          have HB2 := Aside0.mk (show Below g w w2 by
            have h1 := HBA.out
            rw [HG.out] at h1 hk ⊢
            exact below_kb h1 hk)
          clear hins hcells hk hk1
          go_wp2_with fail
          go_ret
          exact ⟨⟨_, rfl, by rw [HP.out]; rfl⟩, HB2.out⟩
end Go.Proofs.YtkkaaipiaandaaaDoor.PC
