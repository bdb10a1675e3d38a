/- works. -/
import Derived.Test.YtkkaaipiaandaaaDoorB7a
namespace Go.Proofs.YtkkaaipiaandaaaDoor.PC
open Go.RowKit Go.Lib Go.Shelf Go.Maps Go.Proofs.YtkkaaipiaandaaaDoorW.PrintWords Go.Proofs.YtkkaaipiaandaaaDoorW.PrintLast Go.Proofs.YtkkaaipiaandaaaDoorW.PrintMore
set_option linter.unusedVariables false
set_option linter.unusedSimpArgs false
theorem rowT_lit (w : World) (l : List ByteArray) (cs : Array Value) (h : cs.toList = l.map Value.string) (hl : l.length ≤ 1000000) : RowT 0 (w.alloc (.cells cs 9)) (.slice (some ⟨w.heap.size, 0, none⟩) l.length l.length) l := by
  have hz : cs.size = l.length := by rw [← Array.length_toList, h, List.length_map]
  refine ⟨by rw [List.length_map, Nat.mul_one], .inr ⟨w.heap.size, l.length, cs, rfl, Nat.zero_le _, World.alloc_heap_new _ _, Nat.le_refl _, by simp only [maxLen]; omega, by rw [hz, Nat.mul_one], ?_⟩⟩
  rw [h, List.take_of_length_le (by rw [List.length_map]; omega)]
theorem rowP_one (w : World) (p : PB) : RowP 0 (w.alloc (.cells #[.string p.1, .string p.2] 36)) 36 (.slice (some ⟨w.heap.size, 0, none⟩) 1 1) [p] :=
  ⟨rfl, .inr ⟨w.heap.size, 1, #[.string p.1, .string p.2], rfl, Nat.zero_le _, World.alloc_heap_new _ _, Nat.le_refl _, by simp only [maxLen]; omega, rfl, rfl⟩⟩
theorem cellsP_row {B : Nat} {w : World} {A : Option Addr} {n c : Nat} {l : List PB} (h : RowP B w 36 (.slice A n c) l) : n = l.length ∧ CellsP w A l ∧ (A = none → n = 0 ∧ c = 0) := by
  rcases h.2 with ⟨h1, h2⟩ | ⟨g, cap, cur, h1, h2, h3, h4, h5, h6, h7⟩
  · cases h1
    refine ⟨h2.symm, fun a ha => by (cases ha), fun _ => ⟨rfl, rfl⟩⟩
  · cases h1
    refine ⟨rfl, fun a ha j q hq => ?_, fun ha => by (cases ha)⟩
    cases ha
    rw [show (⟨g, 0, none⟩ : Addr).add j = ⟨g, j, none⟩ by simp [Addr.add]; exact fun h => h.symm, blk_cell h3]
    rw [← h7, List.getElem?_take] at hq
    split at hq
    · simpa using hq
    · cases hq
theorem ba_of {t : ByteArray} {l : List UInt8} (h : t.data.toList = l) : t = ⟨l.toArray⟩ := b2_ba (by rw [h])
theorem qz : ∀ p ∈ xA1BQ, p.1.size ≤ 1000 ∧ p.2.size ≤ 1000 ∧ ∀ x ∈ p.2.data.toList, 32 ≤ x.toNat ∧ x.toNat < 127 := by decide +kernel
theorem kz : ∀ p ∈ xABC, p.1.size < 100 ∧ p.2.size < 100 := by decide +kernel
theorem nz : ∀ q ∈ xBX, q.size ≤ 9223372036854775807 := by decide +kernel
theorem xz : ∀ x ∈ xA1B2, x.1.size ≤ 9223372036854775807 := by decide +kernel
set_option maxHeartbeats 8000000 in
set_option maxRecDepth 100000 in
theorem works_calls (w : World) : Calls Tryd.prog 4 #[] w fun e w' => e = .returned (.bool true) ∧ Below w.heap.size w w' := by
  have mixed : Tryd.prog.follows .mixedOrders = true := by kernel_rfl
  have HB0 := Aside0.mk (Below.refl w.heap.size w)
  go_enter Tryd.func4, Tryd.ntmps4
  go_wp2_with fail
  refine (x_set ⟨#[98, 50, 97, 49, 99, 45]⟩ xB2A1C _ (by decide) x1).mono ?_
  rintro e w1 ⟨⟨ua, rfl, hr⟩, hb⟩
  obtain ⟨Aa, ca, rfl, -⟩ := own_slice hr
  have HB1 := Aside0.mk (below_then HB0.out hb)
  have HRa_1 := Aside0.mk hr
  clear hb HB0 hr
  go_wp2_with fail
  refine (of_calls xB2A1C Aa _ ca _ (cellsP_row HRa_1.out).1 (cellsP_row HRa_1.out).2.1 (cellsP_row HRa_1.out).2.2 (by decide)).mono ?_
  rintro e w2 ⟨ho, hb⟩
  obtain ⟨ub, rfl, hr⟩ := of_up y1 y2 y3 y4 ho
  clear ho
  have HB2 := Aside0.mk (below_then HB1.out hb)
  have HRa_2 := Aside0.mk (HRa_1.out.kb (Kb.of_below (S := fun _ => False) hb) (fun _ _ h => h))
  have HRb_2 := Aside0.mk hr
  clear hb HB1 HRa_1 hr
  clear HRa_2
  go_wp2_with fail
  refine (x_set ⟨#[97, 49, 97, 50]⟩ xA1A2 _ (by decide) x2).mono ?_
  rintro e w3 ⟨⟨uc, rfl, hr⟩, hb⟩
  obtain ⟨Ac, cc, rfl, -⟩ := own_slice hr
  have HB3 := Aside0.mk (below_then HB2.out hb)
  have HRb_3 := Aside0.mk (HRb_2.out.kb (Kb.of_below (S := fun _ => False) hb) (fun _ _ h => h))
  have HRc_3 := Aside0.mk hr
  clear hb HB2 HRb_2 hr
  go_wp2_with fail
  refine (of_calls xA1A2 Ac _ cc _ (cellsP_row HRc_3.out).1 (cellsP_row HRc_3.out).2.1 (cellsP_row HRc_3.out).2.2 (by decide)).mono ?_
  rintro e w4 ⟨ho, hb⟩
  obtain rfl := of_dup y5 ho
  clear ho
  have HB4 := Aside0.mk (below_then HB3.out hb)
  have HRb_4 := Aside0.mk (HRb_3.out.kb (Kb.of_below (S := fun _ => False) hb) (fun _ _ h => h))
  have HRc_4 := Aside0.mk (HRc_3.out.kb (Kb.of_below (S := fun _ => False) hb) (fun _ _ h => h))
  clear hb HB3 HRb_3 HRc_3
  clear HRc_4
  go_wp2_with fail
  refine (x_set ⟨#[97, 49, 98, 50]⟩ xA1B2 _ (by decide) x3).mono ?_
  rintro e w5 ⟨⟨ud, rfl, hr⟩, hb⟩
  have HB5 := Aside0.mk (below_then HB4.out hb)
  have HRb_5 := Aside0.mk (HRb_4.out.kb (Kb.of_below (S := fun _ => False) hb) (fun _ _ h => h))
  have HRd_5 := Aside0.mk hr
  clear hb HB4 HRb_4 hr
  go_wp2_with fail
  refine (eq_calls xA1B2 xA1B2 _ _ _ _ _ HRb_5.out HRd_5.out (by decide) (by decide)).mono ?_
  rintro e w6 ⟨rfl, hb⟩
  rw [eq_self]
  have HB6 := Aside0.mk (below_then HB5.out hb)
  have HRb_6 := Aside0.mk (HRb_5.out.kb (Kb.of_below (S := fun _ => False) hb) (fun _ _ h => h))
  have HRd_6 := Aside0.mk (HRd_5.out.kb (Kb.of_below (S := fun _ => False) hb) (fun _ _ h => h))
  clear hb HB5 HRb_5 HRd_5
  clear HRb_6
  go_wp2_with fail
  refine (x_set ⟨#[97, 49, 99, 51]⟩ xA1C3 _ (by decide) x4).mono ?_
  rintro e w7 ⟨⟨uf, rfl, hr⟩, hb⟩
  have HB7 := Aside0.mk (below_then HB6.out hb)
  have HRf_7 := Aside0.mk hr
  clear hb HB6 hr
  go_wp2_with fail
  refine (set_calls xA1C3 ⟨#[98]⟩ ⟨#[50]⟩ _ _ _ HRf_7.out (by decide)).mono ?_
  rintro e w8 ⟨ug, rfl, hr, hb⟩
  rw [s1] at hr
  have HB8 := Aside0.mk (below_then HB7.out hb)
  have HRf_8 := Aside0.mk (HRf_7.out.kb (Kb.of_below (S := fun _ => False) hb) (fun _ _ h => h))
  have HRg_8 := Aside0.mk hr
  clear hb HB7 HRf_7 hr
  clear HRf_8
  go_wp2_with fail
  refine (x_set ⟨#[97, 49, 98, 50, 99, 51]⟩ xA1B2C3 _ (by decide) x5).mono ?_
  rintro e w9 ⟨⟨uh, rfl, hr⟩, hb⟩
  have HB9 := Aside0.mk (below_then HB8.out hb)
  have HRg_9 := Aside0.mk (HRg_8.out.kb (Kb.of_below (S := fun _ => False) hb) (fun _ _ h => h))
  have HRh_9 := Aside0.mk hr
  clear hb HB8 HRg_8 hr
  go_wp2_with fail
  refine (eq_calls xA1B2C3 xA1B2C3 _ _ _ _ _ HRg_9.out HRh_9.out (by decide) (by decide)).mono ?_
  rintro e w10 ⟨rfl, hb⟩
  rw [eq_self]
  have HB10 := Aside0.mk (below_then HB9.out hb)
  have HRg_10 := Aside0.mk (HRg_9.out.kb (Kb.of_below (S := fun _ => False) hb) (fun _ _ h => h))
  have HRh_10 := Aside0.mk (HRh_9.out.kb (Kb.of_below (S := fun _ => False) hb) (fun _ _ h => h))
  clear hb HB9 HRg_9 HRh_9
  clear HRg_10
  go_wp2_with fail
  refine (x_set ⟨#[97, 49]⟩ xA1 _ (by decide) x6).mono ?_
  rintro e w11 ⟨⟨ui, rfl, hr⟩, hb⟩
  have HB11 := Aside0.mk (below_then HB10.out hb)
  have HRi_11 := Aside0.mk hr
  clear hb HB10 hr
  go_wp2_with fail
  refine (set_calls xA1 ⟨#[97]⟩ ⟨#[]⟩ _ _ _ HRi_11.out (by decide)).mono ?_
  rintro e w12 ⟨uj, rfl, hr, hb⟩
  rw [s2] at hr
  obtain ⟨Aj, cj, rfl, -⟩ := own_slice hr
  have HB12 := Aside0.mk (below_then HB11.out hb)
  have HRi_12 := Aside0.mk (HRi_11.out.kb (Kb.of_below (S := fun _ => False) hb) (fun _ _ h => h))
  have HRj_12 := Aside0.mk hr
  clear hb HB11 HRi_11 hr
  clear HRi_12
  clear HRj_12
  have HT0 := Aside0.mk (rowT_lit w12 xBX #[.string ⟨#[98]⟩, .string ⟨#[120]⟩] rfl (by decide))
  go_wp2_with fail
  refine (x_set ⟨#[97, 49, 98, 50]⟩ xA1B2 _ (by decide) x3).mono ?_
  rintro e w13 ⟨⟨uk, rfl, hr⟩, hb⟩
  have HRt_13 := Aside0.mk (HT0.out.kb (Kb.of_below (S := fun _ => False) hb) (fun _ _ h => h))
  clear HT0
  have HB13 := Aside0.mk (below_then (below_alloc HB12.out (.cells #[.string ⟨#[98]⟩, .string ⟨#[120]⟩] 9)) hb)
  have HRk_13 := Aside0.mk hr
  clear hb HB12 hr
  go_wp2_with fail
  refine (by_calls xA1B2 xBX _ _ _ _ _ HRk_13.out (by decide) xz HRt_13.out (by decide) nz).mono ?_
  rintro e w14 ⟨ul, rfl, hr, hb⟩
  rw [s3] at hr
  have HB14 := Aside0.mk (below_then HB13.out hb)
  have HRk_14 := Aside0.mk (HRk_13.out.kb (Kb.of_below (S := fun _ => False) hb) (fun _ _ h => h))
  have HRt_14 := Aside0.mk (HRt_13.out.kb (Kb.of_below (S := fun _ => False) hb) (fun _ _ h => h))
  have HRl_14 := Aside0.mk hr
  clear hb HB13 HRk_13 HRt_13 hr
  clear HRk_14
  go_wp2_with fail
  refine (x_set ⟨#[98, 50]⟩ xB2 _ (by decide) x7).mono ?_
  rintro e w15 ⟨⟨um, rfl, hr⟩, hb⟩
  have HB15 := Aside0.mk (below_then HB14.out hb)
  have HRt_15 := Aside0.mk (HRt_14.out.kb (Kb.of_below (S := fun _ => False) hb) (fun _ _ h => h))
  have HRl_15 := Aside0.mk (HRl_14.out.kb (Kb.of_below (S := fun _ => False) hb) (fun _ _ h => h))
  have HRm_15 := Aside0.mk hr
  clear hb HB14 HRt_14 HRl_14 hr
  go_wp2_with fail
  refine (eq_calls xB2 xB2 _ _ _ _ _ HRl_15.out HRm_15.out (by decide) (by decide)).mono ?_
  rintro e w16 ⟨rfl, hb⟩
  rw [eq_self]
  have HB16 := Aside0.mk (below_then HB15.out hb)
  have HRt_16 := Aside0.mk (HRt_15.out.kb (Kb.of_below (S := fun _ => False) hb) (fun _ _ h => h))
  have HRl_16 := Aside0.mk (HRl_15.out.kb (Kb.of_below (S := fun _ => False) hb) (fun _ _ h => h))
  have HRm_16 := Aside0.mk (HRm_15.out.kb (Kb.of_below (S := fun _ => False) hb) (fun _ _ h => h))
  clear hb HB15 HRt_15 HRl_15 HRm_15
  clear HRl_16
  go_wp2_with fail
  refine (x_set ⟨#[97, 49, 98, 50]⟩ xA1B2 _ (by decide) x3).mono ?_
  rintro e w17 ⟨⟨un, rfl, hr⟩, hb⟩
  have HB17 := Aside0.mk (below_then HB16.out hb)
  have HRt_17 := Aside0.mk (HRt_16.out.kb (Kb.of_below (S := fun _ => False) hb) (fun _ _ h => h))
  have HRn_17 := Aside0.mk hr
  clear hb HB16 HRt_16 hr
  go_wp2_with fail
  refine (without_calls xA1B2 xBX _ _ _ _ _ HRn_17.out (by decide) xz HRt_17.out (by decide) nz).mono ?_
  rintro e w18 ⟨uo, rfl, hr, hb⟩
  rw [s4] at hr
  have HB18 := Aside0.mk (below_then HB17.out hb)
  have HRt_18 := Aside0.mk (HRt_17.out.kb (Kb.of_below (S := fun _ => False) hb) (fun _ _ h => h))
  have HRn_18 := Aside0.mk (HRn_17.out.kb (Kb.of_below (S := fun _ => False) hb) (fun _ _ h => h))
  have HRo_18 := Aside0.mk hr
  clear hb HB17 HRt_17 HRn_17 hr
  clear HRn_18
  clear HRt_18
  go_wp2_with fail
  refine (x_set ⟨#[97, 49]⟩ xA1 _ (by decide) x6).mono ?_
  rintro e w19 ⟨⟨up, rfl, hr⟩, hb⟩
  have HB19 := Aside0.mk (below_then HB18.out hb)
  have HRo_19 := Aside0.mk (HRo_18.out.kb (Kb.of_below (S := fun _ => False) hb) (fun _ _ h => h))
  have HRp_19 := Aside0.mk hr
  clear hb HB18 HRo_18 hr
  go_wp2_with fail
  refine (eq_calls xA1 xA1 _ _ _ _ _ HRo_19.out HRp_19.out (by decide) (by decide)).mono ?_
  rintro e w20 ⟨rfl, hb⟩
  rw [eq_self]
  have HB20 := Aside0.mk (below_then HB19.out hb)
  have HRo_20 := Aside0.mk (HRo_19.out.kb (Kb.of_below (S := fun _ => False) hb) (fun _ _ h => h))
  have HRp_20 := Aside0.mk (HRp_19.out.kb (Kb.of_below (S := fun _ => False) hb) (fun _ _ h => h))
  clear hb HB19 HRo_19 HRp_19
  clear HRo_20
  go_wp2_with fail
  refine (clean_calls ⟨#[57, 45, 120]⟩ _ (by decide)).mono ?_
  rintro e w21 ⟨⟨t1, rfl, ht⟩, hb⟩
  rw [c1] at ht
  obtain rfl := ba_of ht
  clear ht
  have HB21 := Aside0.mk (below_then HB20.out hb)
  clear hb HB20 
  go_wp2_with fail
  refine (x_set ⟨#[97, 49, 98, 34]⟩ xA1BQ _ (by decide) x8).mono ?_
  rintro e w22 ⟨⟨uq, rfl, hr⟩, hb⟩
  have HB22 := Aside0.mk (below_then HB21.out hb)
  have HRq_22 := Aside0.mk hr
  clear hb HB21 hr
  go_wp2_with fail
  refine (text_calls xA1BQ _ _ _ HRq_22.out (by decide) qz).mono ?_
  rintro e w23 ⟨⟨t2, rfl, ht⟩, hb⟩
  rw [c2] at ht
  obtain rfl := ba_of ht
  clear ht
  have HB23 := Aside0.mk (below_then HB22.out hb)
  have HRq_23 := Aside0.mk (HRq_22.out.kb (Kb.of_below (S := fun _ => False) hb) (fun _ _ h => h))
  clear hb HB22 HRq_22
  clear HRq_23
  go_wp2_with fail
  refine (key_calls xABC _ _ _ (rowP_one w23 (⟨#[97]⟩, ⟨#[98, 99]⟩)) (by decide) kz).mono ?_
  rintro e w24 ⟨⟨t3, rfl, ht⟩, hb⟩
  rw [c3] at ht
  obtain rfl := ba_of ht
  clear ht
  have HB24 := Aside0.mk (below_then (below_alloc HB23.out (.cells #[.string ⟨#[97]⟩, .string ⟨#[98, 99]⟩] 36)) hb)
  clear hb HB23 
  go_wp2_with fail
  go_ret
  exact ⟨rfl, HB24.out⟩
end Go.Proofs.YtkkaaipiaandaaaDoor.PC
