/- CutsPieces, walked. -/
import Derived.Test.YtpobgpfkohlokaaLP
import Derived.Deep.QuietTactic
namespace Go.Proofs.Ytpobgpfkohlokaa.PC
open Go.RowKit Go.Lib Go.Shelf Go.Maps Go.Proofs.YtpobgpfkohlokaaW.PrintWords Go.Proofs.YtpobgpfkohlokaaW.PrintLast Go.Proofs.YtpobgpfkohlokaaW.PrintMore
attribute [local go_sem] max2_int min2_int max_two min_two
set_option linter.unusedVariables false
set_option linter.unusedSimpArgs false
theorem size_list (b : ByteArray) : b.data.toList.length = b.size := data_length b
theorem ba_eq {a b : ByteArray} (h : a.data.toList = b.data.toList) : a = b := by
  cases a; cases b
  congr 1
  exact Array.toList_inj.1 h
theorem app_list (a b : ByteArray) : (a ++ b).data.toList = a.data.toList ++ b.data.toList := by simp
set_option maxHeartbeats 16000000 in
set_option maxRecDepth 100000 in
theorem pieces_calls (s : ByteArray) (x y : Int) (w : World) (hs : s.size ≤ 140737488355328) (m : Int) (hm : w.cell? ⟨0, 0, none⟩ = some (.int .i64 m)) :
    Calls Try.prog 4 #[.string s, .agg #[.int .i64 x, .int .i64 y]] w fun e w' => e = .returned (.bool true) ∧ Below w.heap.size w w' := by
  obtain ⟨p, hp, hpl⟩ := piece_in x
  obtain ⟨q, hq, hql⟩ := piece_in y
  obtain ⟨hp0, hp3⟩ := pieceL_ne _ hpl
  obtain ⟨hq0, hq3⟩ := pieceL_ne _ hql
  rw [size_list] at hp3 hq3
  obtain ⟨w0, hw0⟩ : ∃ w0, w0 = w.alloc (.cells #[.int .i64 x, .int .i64 y] 38) := ⟨_, rfl⟩
  have hb0 : Below w.heap.size w w0 := by rw [hw0]; exact below_alloc (Below.refl _ _) _
  have hx0 : w0.cell? ⟨w.heap.size, 0, none⟩ = some (.int .i64 x) := by rw [hw0]; exact (blk_cell (World.alloc_heap_new _ _) 0).trans rfl
  have hy0 : w0.cell? ⟨w.heap.size, 1, none⟩ = some (.int .i64 y) := by rw [hw0]; exact (blk_cell (World.alloc_heap_new _ _) 1).trans rfl
  have HM := Aside0.mk (cell_bl hb0 hm)
  have HB := Aside0.mk hb0
  go_enter Try.func4, Try.ntmps4
  go_wp2_with fail
  rw [← hw0]
  refine (works_calls w0 m HM.out).mono ?_
  rintro e w1 ⟨rfl, hb1⟩
  have HB1 := Aside0.mk (below_then HB.out hb1)
  have HM1 := Aside0.mk (cell_bl hb1 HM.out)
  have HX1 := Aside0.mk (cell_bl hb1 hx0)
  have HY1 := Aside0.mk (cell_bl hb1 hy0)
  clear hb1 hx0 hy0 hb0 hm HB HM hw0
  obtain ⟨c, hc, hc1, hc2⟩ : ∃ c : Nat, (if (500 : Int) < (s.size : Int) then (500 : Int) else (s.size : Int)) = (c : Int) ∧ c ≤ s.size ∧ c ≤ 500 := by
    by_cases h : (500 : Int) < (s.size : Int)
    · exact ⟨500, by rw [if_pos h]; rfl, by omega, Nat.le_refl _⟩
    · exact ⟨s.size, by rw [if_neg h], Nat.le_refl _, by omega⟩
  have mixed : Try.prog.follows .mixedOrders = true := by kernel_rfl
  go_wp2_with fail
  obtain ⟨t, ht⟩ : ∃ t, t = s.extract 0 c := ⟨_, rfl⟩
  rw [← ht]
  have htz : t.size ≤ 500 := by
    rw [ht, ← size_list, ext_take, List.length_take]
    omega
  clear ht hc hc1 hc2
  go_cut [5, 6] from 78 (fun v5 v6 w' => v5 = .string p ∧ v6 = .string q ∧ Aside0 (Below w.heap.size w w') ∧ Aside0 (w'.cell? ⟨0, 0, none⟩ = some (.int .i64 m)))
  case first =>
    refine wp_region_any (by assumption) ?_
    try (change wpAny _ _ _ _ _ _ _ (World.drew _))
    have hx1 := HX1.out
    have hy1 := HY1.out
    have hx1' : w1.drew.cell? ⟨w.heap.size, 0, none⟩ = some (.int .i64 x) := hx1
    have hy1' : w1.drew.cell? ⟨w.heap.size, 1, none⟩ = some (.int .i64 y) := hy1
    have HB2 := Aside0.mk (below_drew1 HB1.out)
    have HM2 := Aside0.mk (show w1.drew.cell? ⟨0, 0, none⟩ = some (.int .i64 m) from HM1.out)
    clear hx1 hy1
    generalize w1.drew = wa at hx1' hy1' HB2 HM2 ⊢
    refine wpAny_take (i := 0) (v := ?vP1) rfl (by kernel_rfl) (by kernel_rfl) (by kernel_rfl) (fun _ _ _ h => h) (Or.inl ⟨by rfl, ?hyP1⟩) ?_
    case hyP1 => intro w; go_simp; (first | done | (with_reducible rfl))
    refine wpAny_take (i := 3) (v := ?vP2) rfl (by kernel_rfl) (by kernel_rfl) (by kernel_rfl) (fun _ _ _ h => h) (Or.inl ⟨by rfl, ?hyP2⟩) ?_
    case hyP2 => intro w; go_simp; (first | done | (with_reducible rfl))
    refine wpAny_ready (rs := [1, 4]) (by kernel_rfl) (by simp) ?_
    refine AllReady.cons rfl (fun K hK => ?_) ?_
    · go_simp
      refine hK _ _ ?_
      clear hK K
      skip
      refine wpAny_ready (rs := [2, 4]) (by kernel_rfl) (by simp) ?_
      refine AllReady.cons rfl (fun K hK => ?_) ?_
      · go_simp
        refine (driftnetlaw18_piece.calls x p _ hp).mono ?_
        rintro e wb ⟨rfl, hbb⟩
        refine hK _ _ ?_
        clear hK K
        have HB3 := Aside0.mk (below_then HB2.out hbb)
        have HM3 := Aside0.mk (cell_bl hbb HM2.out)
        have hy2' := cell_bl hbb hy1'
        clear hbb
        refine wpAny_ready (rs := [4]) (by kernel_rfl) (by simp) ?_
        refine AllReady.cons rfl (fun K hK => ?_) ?_
        · go_simp
          refine hK _ _ ?_
          clear hK K
          skip
          refine wpAny_ready (rs := [5]) (by kernel_rfl) (by simp) ?_
          refine AllReady.cons rfl (fun K hK => ?_) ?_
          · go_simp
            refine (driftnetlaw18_piece.calls y q _ hq).mono ?_
            rintro e wc ⟨rfl, hbc⟩
            refine hK _ _ ?_
            clear hK K
            have HB4 := Aside0.mk (below_then HB3.out hbc)
            have HM4 := Aside0.mk (cell_bl hbc HM3.out)
            clear hbc
            refine wpAny_take (i := 6) (v := ?vP3) rfl (by kernel_rfl) (by kernel_rfl) (by kernel_rfl) (fun _ _ _ h => h) (Or.inl ⟨by rfl, ?hyP3⟩) ?_
            case hyP3 => intro w; go_simp; (first | done | (with_reducible rfl))
            refine wpAny_take (i := 7) (v := ?vP4) rfl (by kernel_rfl) (by kernel_rfl) (by kernel_rfl) (fun _ _ _ h => h) (Or.inl ⟨by rfl, ?hyP4⟩) ?_
            case hyP4 => intro w; go_simp; (first | done | (with_reducible rfl))
            refine wpAny_done (by kernel_rfl) ?_ _
            go_wp2_with fail
            go_meet
            case rel => exact ⟨rfl, rfl, HB4, HM4⟩
          exact AllReady.nil
        exact AllReady.nil
      refine AllReady.cons rfl (fun K hK => ?_) ?_
      · go_simp
        refine hK _ _ ?_
        clear hK K
        skip
        refine wpAny_ready (rs := [2]) (by kernel_rfl) (by simp) ?_
        refine AllReady.cons rfl (fun K hK => ?_) ?_
        · go_simp
          refine (driftnetlaw18_piece.calls x p _ hp).mono ?_
          rintro e wb ⟨rfl, hbb⟩
          refine hK _ _ ?_
          clear hK K
          have HB3 := Aside0.mk (below_then HB2.out hbb)
          have HM3 := Aside0.mk (cell_bl hbb HM2.out)
          have hy2' := cell_bl hbb hy1'
          clear hbb
          refine wpAny_ready (rs := [5]) (by kernel_rfl) (by simp) ?_
          refine AllReady.cons rfl (fun K hK => ?_) ?_
          · go_simp
            refine (driftnetlaw18_piece.calls y q _ hq).mono ?_
            rintro e wc ⟨rfl, hbc⟩
            refine hK _ _ ?_
            clear hK K
            have HB4 := Aside0.mk (below_then HB3.out hbc)
            have HM4 := Aside0.mk (cell_bl hbc HM3.out)
            clear hbc
            refine wpAny_take (i := 6) (v := ?vP5) rfl (by kernel_rfl) (by kernel_rfl) (by kernel_rfl) (fun _ _ _ h => h) (Or.inl ⟨by rfl, ?hyP5⟩) ?_
            case hyP5 => intro w; go_simp; (first | done | (with_reducible rfl))
            refine wpAny_take (i := 7) (v := ?vP6) rfl (by kernel_rfl) (by kernel_rfl) (by kernel_rfl) (fun _ _ _ h => h) (Or.inl ⟨by rfl, ?hyP6⟩) ?_
            case hyP6 => intro w; go_simp; (first | done | (with_reducible rfl))
            refine wpAny_done (by kernel_rfl) ?_ _
            go_wp2_with fail
            go_meet
            case rel => exact ⟨rfl, rfl, HB4, HM4⟩
          exact AllReady.nil
        exact AllReady.nil
      exact AllReady.nil
    refine AllReady.cons rfl (fun K hK => ?_) ?_
    · go_simp
      refine hK _ _ ?_
      clear hK K
      skip
      refine wpAny_ready (rs := [1]) (by kernel_rfl) (by simp) ?_
      refine AllReady.cons rfl (fun K hK => ?_) ?_
      · go_simp
        refine hK _ _ ?_
        clear hK K
        skip
        refine wpAny_ready (rs := [2]) (by kernel_rfl) (by simp) ?_
        refine AllReady.cons rfl (fun K hK => ?_) ?_
        · go_simp
          refine (driftnetlaw18_piece.calls x p _ hp).mono ?_
          rintro e wb ⟨rfl, hbb⟩
          refine hK _ _ ?_
          clear hK K
          have HB3 := Aside0.mk (below_then HB2.out hbb)
          have HM3 := Aside0.mk (cell_bl hbb HM2.out)
          have hy2' := cell_bl hbb hy1'
          clear hbb
          refine wpAny_ready (rs := [5]) (by kernel_rfl) (by simp) ?_
          refine AllReady.cons rfl (fun K hK => ?_) ?_
          · go_simp
            refine (driftnetlaw18_piece.calls y q _ hq).mono ?_
            rintro e wc ⟨rfl, hbc⟩
            refine hK _ _ ?_
            clear hK K
            have HB4 := Aside0.mk (below_then HB3.out hbc)
            have HM4 := Aside0.mk (cell_bl hbc HM3.out)
            clear hbc
            refine wpAny_take (i := 6) (v := ?vP7) rfl (by kernel_rfl) (by kernel_rfl) (by kernel_rfl) (fun _ _ _ h => h) (Or.inl ⟨by rfl, ?hyP7⟩) ?_
            case hyP7 => intro w; go_simp; (first | done | (with_reducible rfl))
            refine wpAny_take (i := 7) (v := ?vP8) rfl (by kernel_rfl) (by kernel_rfl) (by kernel_rfl) (fun _ _ _ h => h) (Or.inl ⟨by rfl, ?hyP8⟩) ?_
            case hyP8 => intro w; go_simp; (first | done | (with_reducible rfl))
            refine wpAny_done (by kernel_rfl) ?_ _
            go_wp2_with fail
            go_meet
            case rel => exact ⟨rfl, rfl, HB4, HM4⟩
          exact AllReady.nil
        exact AllReady.nil
      exact AllReady.nil
    exact AllReady.nil
  case rest =>
    obtain ⟨rfl, rfl, HB2, HM2⟩ := hcut
    obtain ⟨pb, hpb⟩ : ∃ pb : ByteArray, pb = ((((⟨#[60, 97, 62]⟩ : ByteArray) ++ p) ++ (⟨#[60, 98, 62]⟩ : ByteArray)) ++ q) ++ (⟨#[60, 99, 62]⟩ : ByteArray) := ⟨_, rfl⟩
    have hpbl : pb.data.toList = patP p.data.toList q.data.toList := by
      rw [hpb, app_list, app_list, app_list, app_list]
      rfl
    have hpz : pb.size < 1099511627776 := by
      rw [← size_list, hpbl]
      unfold patP
      simp only [List.length_append, size_list, List.length_cons, List.length_nil]
      omega
    clear HB1 HM1 HX1 HY1 hp hq
    rename_i w2
    have hq5 : q.size ≤ 3 := hq3
    rcases cutP_pieces p.data.toList q.data.toList t.data.toList hpl hql with ⟨hi, hc⟩ | ⟨i, hi, hir, ⟨hk, hc⟩ | ⟨k, hk, oo, hc, hg⟩⟩
    · have hi1 : index t.data.toList p.data.toList = -1 := by have := index_ge t.data.toList p.data.toList; omega
      rw [← hpbl] at hc
      clear hpbl hpl hql hp0 hq0
      go_wp2_with fail
      rw [← hpb]
      clear hpb
      refine (cut_none pb t _ hpz (by omega) m HM2.out hc).mono ?_
      rintro e w3 ⟨rfl, hb3⟩
      have HB3 := Aside0.mk (below_then HB2.out hb3)
      have HM3 := Aside0.mk (cell_bl hb3 HM2.out)
      clear hb3 hc
      have hix := Try.strings_Index t p m _ (by omega) HM3.out
      rw [hi1] at hix
      go_wp2_with fail
      refine hix.mono ?_
      rintro e w4 ⟨rfl, hw⟩
      subst w4
      clear hix
      go_wp2_with fail
      go_ret
      exact ⟨rfl, HB3.out⟩
    · have hix0 := hi
      rw [size_list] at hir
      rw [size_list] at hk
      have hir2 : i + p.size ≤ t.size := by rw [size_list] at hir; exact hir
      have e1 : IntKind.i64.wrap ((i : Int) + (p.size : Int)) = ((i + p.size : Nat) : Int) := (i64_w _).trans ((w64 (by omega) (by omega)).trans (by omega))
      have hdr : t.data.toList.drop (i + p.size) = (t.extract (i + p.size) t.size).data.toList := (ext_drop t (i + p.size)).symm
      rw [hdr] at hk
      clear hdr
      have hk1 : index (t.extract (i + p.size) t.size).data.toList q.data.toList = -1 := by have := index_ge (t.extract (i + p.size) t.size).data.toList q.data.toList; omega
      clear hk
      rw [← hpbl] at hc
      clear hpbl hpl hql hp0 hq0
      go_wp2_with fail
      rw [← hpb]
      clear hpb
      refine (cut_none pb t _ hpz (by omega) m HM2.out hc).mono ?_
      rintro e w3 ⟨rfl, hb3⟩
      have HB3 := Aside0.mk (below_then HB2.out hb3)
      have HM3 := Aside0.mk (cell_bl hb3 HM2.out)
      clear hb3 hc
      have hix := Try.strings_Index t p m _ (by omega) HM3.out
      rw [hix0] at hix
      go_wp2_with fail
      refine hix.mono ?_
      rintro e w4 ⟨rfl, hw⟩
      subst w4
      clear hix
      have hix := Try.strings_Index (t.extract (i + p.size) t.size) q m _ (by have := size_drop_ t (i + p.size); omega) HM3.out
      rw [hk1] at hix
      go_wp2_with fail
      refine hix.mono ?_
      rintro e w4 ⟨rfl, hw⟩
      subst w4
      clear hix
      go_wp2_with fail
      go_ret
      exact ⟨rfl, HB3.out⟩
    · have hix0 := hi
      rw [size_list] at hir
      rw [size_list] at hk
      have hir2 : i + p.size ≤ t.size := by rw [size_list] at hir; exact hir
      have e1 : IntKind.i64.wrap ((i : Int) + (p.size : Int)) = ((i + p.size : Nat) : Int) := (i64_w _).trans ((w64 (by omega) (by omega)).trans (by omega))
      have hdr : t.data.toList.drop (i + p.size) = (t.extract (i + p.size) t.size).data.toList := (ext_drop t (i + p.size)).symm
      rw [hdr] at hk
      clear hdr
      have HG := Aside0.mk hg
      clear hg
      rw [← hpbl] at hc
      clear hpbl hpl hql hp0 hq0
      go_wp2_with fail
      rw [← hpb]
      clear hpb
      refine (cut_some pb t _ hpz (by omega) m HM2.out oo hc).mono ?_
      rintro e w3 ⟨u, ds, rfl, rfl, hr, hb3⟩
      obtain ⟨Ad, cd, rfl, hcd⟩ := own_slice hr
      have hdl := cutP_len hc
      rw [List.length_map] at hdl
      have HR := Aside0.mk hr
      have HB3 := Aside0.mk (below_then HB2.out hb3)
      have HM3 := Aside0.mk (cell_bl hb3 HM2.out)
      clear hb3 hc hr
      have hix := Try.strings_Index t p m _ (by omega) HM3.out
      rw [hix0] at hix
      go_wp2_with fail
      refine hix.mono ?_
      rintro e w4 ⟨rfl, hw⟩
      subst w4
      clear hix
      have hix := Try.strings_Index (t.extract (i + p.size) t.size) q m _ (by have := size_drop_ t (i + p.size); omega) HM3.out
      rw [hk] at hix
      go_wp2_with fail
      refine hix.mono ?_
      rintro e w4 ⟨rfl, hw⟩
      subst w4
      clear hix
      have hall : ((getB ds ⟨#[97]⟩ ++ p ++ getB ds ⟨#[98]⟩ ++ q ++ getB ds ⟨#[99]⟩).toList == t.toList) = true := by
        rw [ByteArray.toList_eq, ByteArray.toList_eq, app_list, app_list, app_list, app_list, getB_map, getB_map, getB_map]
        exact beq_iff_eq.2 HG.out
      obtain ⟨ga, hga⟩ : ∃ x, x = getB ds ⟨#[97]⟩ := ⟨_, rfl⟩
      obtain ⟨gb, hgb⟩ : ∃ x, x = getB ds ⟨#[98]⟩ := ⟨_, rfl⟩
      obtain ⟨gc, hgc⟩ : ∃ x, x = getB ds ⟨#[99]⟩ := ⟨_, rfl⟩
      have hlen : ga.size + p.size + gb.size + q.size + gc.size = t.size := by
        have h := congrArg List.length HG.out
        rw [List.length_append, List.length_append, List.length_append, List.length_append] at h
        have h1 := congrArg List.length (getB_map ds ⟨#[97]⟩)
        have h2 := congrArg List.length (getB_map ds ⟨#[98]⟩)
        have h3 := congrArg List.length (getB_map ds ⟨#[99]⟩)
        rw [size_list] at h1 h2 h3 h
        rw [size_list, size_list] at h
        rw [hga, hgb, hgc, h1, h2, h3]
        exact h
      rw [← hga, ← hgb, ← hgc] at hall
      have HGa := Aside0.mk hga
      have HGb := Aside0.mk hgb
      have HGc := Aside0.mk hgc
      clear hga hgb hgc
      have z1 : ga.size ≤ 500 := by omega
      have z2 : gb.size ≤ 500 := by omega
      have z3 : gc.size ≤ 500 := by omega
      have z4 : ga.size + p.size ≤ 9223372036854775807 := by omega
      have z5 : ga.size + p.size + gb.size ≤ 9223372036854775807 := by omega
      have z6 : ga.size + p.size + gb.size + q.size ≤ 9223372036854775807 := by omega
      have z7 : ga.size + p.size + gb.size + q.size + gc.size ≤ 9223372036854775807 := by omega
      go_wp2_with fail
      have hgt : ∀ (B : Nat) (v : Value) (W : World), RowP B W 74 v ds → Calls Try.prog 20 #[v, .string ⟨#[97]⟩] W fun e w' => e = .returned (.string ga) ∧ Below W.heap.size W w' := fun B v W h => by rw [HGa.out]; exact get_calls ds ⟨#[97]⟩ B v W h (by omega)
      refine (hgt _ _ _ HR.out).mono ?_
      rintro e v0 ⟨rfl, hb⟩
      clear hgt
      have HR1 := Aside0.mk (HR.out.kb (Kb.of_below (S := fun _ => False) hb) (fun _ _ h => h))
      have HB4 := Aside0.mk (below_then HB3.out hb)
      clear hb
      go_wp2_with fail
      have hgt : ∀ (B : Nat) (v : Value) (W : World), RowP B W 74 v ds → Calls Try.prog 20 #[v, .string ⟨#[98]⟩] W fun e w' => e = .returned (.string gb) ∧ Below W.heap.size W w' := fun B v W h => by rw [HGb.out]; exact get_calls ds ⟨#[98]⟩ B v W h (by omega)
      refine (hgt _ _ _ HR1.out).mono ?_
      rintro e v1 ⟨rfl, hb⟩
      clear hgt
      have HR2 := Aside0.mk (HR1.out.kb (Kb.of_below (S := fun _ => False) hb) (fun _ _ h => h))
      have HB5 := Aside0.mk (below_then HB4.out hb)
      clear hb
      go_wp2_with fail
      have hgt : ∀ (B : Nat) (v : Value) (W : World), RowP B W 74 v ds → Calls Try.prog 20 #[v, .string ⟨#[99]⟩] W fun e w' => e = .returned (.string gc) ∧ Below W.heap.size W w' := fun B v W h => by rw [HGc.out]; exact get_calls ds ⟨#[99]⟩ B v W h (by omega)
      refine (hgt _ _ _ HR2.out).mono ?_
      rintro e v2 ⟨rfl, hb⟩
      clear hgt
      have HR3 := Aside0.mk (HR2.out.kb (Kb.of_below (S := fun _ => False) hb) (fun _ _ h => h))
      have HB6 := Aside0.mk (below_then HB5.out hb)
      clear hb
      go_wp2_with fail
      go_ret
      exact ⟨rfl, HB6.out⟩
end Go.Proofs.Ytpobgpfkohlokaa.PC
