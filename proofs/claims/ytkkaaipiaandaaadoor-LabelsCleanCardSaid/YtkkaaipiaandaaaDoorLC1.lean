/- What Clean makes, plainly; LabelsClean's law at any text. -/
import Derived.Test.YtkkaaipiaandaaaDoorB7
namespace Go.Proofs.YtkkaaipiaandaaaDoor.PC
open Go.RowKit Go.Lib Go.Shelf Go.Maps Go.Proofs.YtkkaaipiaandaaaDoorW.PrintWords Go.Proofs.YtkkaaipiaandaaaDoorW.PrintLast Go.Proofs.YtkkaaipiaandaaaDoorW.PrintMore
set_option linter.unusedVariables false
set_option linter.unusedSimpArgs false
theorem clB_name (b : UInt8) : nameB ((clB b).toNat : Int) = true := by
  unfold clB
  split
  · assumption
  · decide
theorem take_name : ∀ z : List UInt8, z ≠ [] → digB ((z.getD 0 0).toNat : Int) = false → z.all (fun b => nameB (b.toNat : Int)) = true → isNameB (z.take 64) = true
  | [], h, _, _ => absurd rfl h
  | a :: r, _, h2, h3 => by
    have h4 : digB (a.toNat : Int) = false := h2
    have h5 := List.all_eq_true.1 h3
    have h6 : ((a :: r).take 64).all (fun b => nameB (b.toNat : Int)) = true := List.all_eq_true.2 (fun x hx => h5 x (List.mem_of_mem_take hx))
    have h7 : ((a :: r).take 64).length ≤ 64 := by rw [List.length_take]; omega
    unfold isNameB
    rw [h6, decide_eq_true h7]
    show (!false && true && !digB (a.toNat : Int) && true) = true
    rw [h4]
    rfl
theorem clean_name (l : List UInt8) : isNameB (cleanP l) = true := by
  have ha : (l.map clB).all (fun b => nameB (b.toNat : Int)) = true := List.all_eq_true.2 (fun x hx => by
    obtain ⟨b, -, rfl⟩ := List.mem_map.1 hx
    exact clB_name b)
  unfold cleanP
  split
  · refine take_name _ (by simp) (show digB ((95 : UInt8).toNat : Int) = false by decide) ?_
    rw [List.all_cons, ha]
    decide
  · rename_i h
    unfold headB at h
    rw [Bool.or_eq_true, not_or] at h
    refine take_name _ (fun e => h.1 (by rw [e]; rfl)) (by simpa using h.2) ha
theorem name_clean (l : List UInt8) (h : isNameB l = true) : cleanP l = l := by
  unfold isNameB at h
  simp only [Bool.and_eq_true, Bool.not_eq_true', decide_eq_true_eq] at h
  obtain ⟨⟨⟨h1, h2⟩, h3⟩, h4⟩ := h
  have h5 : l.map clB = l := by
    have h6 : ∀ x ∈ l, clB x = x := fun x hx => by
      unfold clB
      exact if_pos (List.all_eq_true.1 h4 x hx)
    have h7 : l.map clB = l.map id := List.map_congr_left h6
    rw [h7, List.map_id]
  unfold cleanP
  rw [h5]
  have h8 : headB l = false := by unfold headB; rw [h1, h3]; rfl
  rw [h8, if_neg (by decide)]
  exact List.take_of_length_le h2
theorem clean_len (l : List UInt8) : (l.length ≤ (cleanP l).length ∨ 64 ≤ (cleanP l).length) ∧ (cleanP l).length ≤ l.length + 1 := by
  unfold cleanP
  split <;> simp only [List.length_take, List.length_cons, List.length_map] <;> omega
set_option maxHeartbeats 8000000 in
set_option maxRecDepth 100000 in
theorem lc_calls (s : ByteArray) (w : World) : Calls Tryd.prog 3 #[.string s] w fun e w' => e = .returned (.bool true) ∧ Below w.heap.size w w' := by
  have mixed : Tryd.prog.follows .mixedOrders = true := by kernel_rfl
  have hTz : (s.extract 0 (min (s.size : Int) 300).toNat).size ≤ 300 := by rw [ByteArray.size_extract]; omega
  go_enter Tryd.func3, Tryd.ntmps3
  go_wp2_with fail
  refine (works_calls _).mono ?_
  rintro e w1 ⟨rfl, hb⟩
  have HB1 := Aside0.mk hb
  clear hb
  go_wp2_with fail
  obtain ⟨T, hT⟩ : ∃ T, T = s.extract 0 (min (s.size : Int) 300).toNat := ⟨_, rfl⟩
  rw [← hT] at hTz ⊢
  clear hT
  refine (clean_calls T _ (by omega)).mono ?_
  rintro e w2 ⟨⟨c, rfl, hc⟩, hb⟩
  have HB2 := Aside0.mk (below_then HB1.out hb)
  have hcn : isNameB c.data.toList = true := by rw [hc]; exact clean_name _
  have hln := clean_len T.data.toList
  rw [← hc, lk_size, lk_size] at hln
  have hcz : c.size ≤ 301 := by omega
  have HCN := Aside0.mk hcn
  have HC := Aside0.mk hc
  have hw1 : IntKind.i64.wrap ((T.size : Int) + 1) = (T.size : Int) + 1 := (i64_w _).trans (w64 (by omega) (by omega))
  clear hb HB1 hc hcn
  have hq : min (T.size : Int) 64 ≤ (c.size : Int) := by omega
  have hm : (c.size : Int) ≤ max ((T.size : Int) + 1) 1 := by omega
  clear hln
  cases hN : isNameB T.data.toList with
  | true =>
    have hcT : c = T := b2_ba (by rw [HC.out]; exact name_clean _ hN)
    subst hcT
    clear hN HC
    go_wp2_with fail
    refine (isname_any c _).mono ?_
    rintro e w3 ⟨rfl, hb⟩
    have HB3 := Aside0.mk (below_then HB2.out hb)
    rw [HCN.out]
    clear hb HB2
    go_wp2_with fail
    refine (clean_calls c _ (by omega)).mono ?_
    rintro e w4 ⟨⟨c2, rfl, hc2⟩, hb⟩
    have HB4 := Aside0.mk (below_then HB3.out hb)
    obtain rfl : c2 = c := b2_ba (by rw [hc2]; exact name_clean _ HCN.out)
    clear hb HB3 hc2
    go_wp2_with fail
    refine (isname_any c2 _).mono ?_
    rintro e w5 ⟨rfl, hb⟩
    have HB5 := Aside0.mk (below_then HB4.out hb)
    rw [HCN.out]
    clear hb HB4
    go_wp2_with fail
    go_ret
    exact ⟨by first | rfl | simp, HB5.out⟩
  | false =>
    have hcT : (c.toList == T.toList) = false := by
      rw [ByteArray.toList_eq, ByteArray.toList_eq]
      refine beq_eq_false_iff_ne.2 (fun he => ?_)
      have := HCN.out
      rw [he, hN] at this
      cases this
    have HN := Aside0.mk hN
    clear hN HC
    go_wp2_with fail
    refine (isname_any c _).mono ?_
    rintro e w3 ⟨rfl, hb⟩
    have HB3 := Aside0.mk (below_then HB2.out hb)
    rw [HCN.out]
    clear hb HB2
    go_wp2_with fail
    refine (clean_calls c _ (by omega)).mono ?_
    rintro e w4 ⟨⟨c2, rfl, hc2⟩, hb⟩
    have HB4 := Aside0.mk (below_then HB3.out hb)
    obtain rfl : c2 = c := b2_ba (by rw [hc2]; exact name_clean _ HCN.out)
    clear hb HB3 hc2
    go_wp2_with fail
    refine (isname_any T _).mono ?_
    rintro e w5 ⟨rfl, hb⟩
    have HB5 := Aside0.mk (below_then HB4.out hb)
    rw [HN.out]
    clear hb HB4
    go_wp2_with fail
    go_ret
    exact ⟨by first | rfl | simp, HB5.out⟩
end Go.Proofs.YtkkaaipiaandaaaDoor.PC
