/- works. -/
import Derived.Test.YtpobgpfkohlokaaCT
namespace Go.Proofs.Ytpobgpfkohlokaa.PC
open Go.RowKit Go.Lib Go.Shelf Go.Maps Go.Proofs.YtpobgpfkohlokaaW.PrintWords Go.Proofs.YtpobgpfkohlokaaW.PrintLast Go.Proofs.YtpobgpfkohlokaaW.PrintMore
set_option linter.unusedVariables false
set_option linter.unusedSimpArgs false
theorem rowT_lit (w : World) (l : List ByteArray) (cs : Array Value) (h : cs.toList = l.map Value.string) (hl : l.length ≤ 1000000) : RowT 0 (w.alloc (.cells cs 9)) (.slice (some ⟨w.heap.size, 0, none⟩) l.length l.length) l := by
  have hz : cs.size = l.length := by rw [← Array.length_toList, h, List.length_map]
  refine ⟨by rw [List.length_map, Nat.mul_one], .inr ⟨w.heap.size, l.length, cs, rfl, Nat.zero_le _, World.alloc_heap_new _ _, Nat.le_refl _, by simp only [maxLen]; omega, by rw [hz, Nat.mul_one], ?_⟩⟩
  rw [h, List.take_of_length_le (by rw [List.length_map]; omega)]
theorem rowT_none (w : World) : RowT 0 w (.slice none 0 0) [] := ⟨rfl, .inl ⟨rfl, rfl⟩⟩
theorem wk0 : tellsP (⟨#[60, 105, 112, 62, 32, 45, 32, 60, 95, 62, 32, 34, 60, 109, 62, 32, 60, 112, 62, 34]⟩ : ByteArray).data.toList (⟨#[49, 46, 50, 32, 45, 32, 98, 111, 98, 32, 34, 71, 69, 84, 32, 47, 120, 34, 32, 50, 48, 48]⟩ : ByteArray).data.toList (([⟨#[105, 112]⟩, ⟨#[49, 46, 50]⟩, ⟨#[109]⟩, ⟨#[71, 69, 84]⟩, ⟨#[112]⟩, ⟨#[47, 120]⟩] : List ByteArray).map bl) = true := by decide
theorem wk1 : tellsP (⟨#[97, 60, 120, 62]⟩ : ByteArray).data.toList (⟨#[97, 98, 99]⟩ : ByteArray).data.toList (([⟨#[120]⟩, ⟨#[98, 99]⟩] : List ByteArray).map bl) = true := by decide
theorem wk2 : tellsP (⟨#[97, 60, 120, 62]⟩ : ByteArray).data.toList (⟨#[97]⟩ : ByteArray).data.toList (([] : List ByteArray).map bl) = true := by decide
theorem wk3 : noneP (⟨#[97, 60, 120, 62]⟩ : ByteArray).data.toList (⟨#[98]⟩ : ByteArray).data.toList = true := by decide
theorem wk4 : failsP (⟨#[60, 120, 62, 60, 121, 62]⟩ : ByteArray).data.toList = true := by decide
theorem wk5 : failsP (⟨#[97, 98, 99]⟩ : ByteArray).data.toList = true := by decide
theorem wk6 : failsP (⟨#[60, 120, 62, 32, 60, 120, 62]⟩ : ByteArray).data.toList = true := by decide
theorem wk7 : failsP (⟨#[60, 95, 62]⟩ : ByteArray).data.toList = true := by decide
theorem wk8 : failsP (⟨#[60, 57, 62]⟩ : ByteArray).data.toList = true := by decide
set_option maxHeartbeats 8000000 in
set_option maxRecDepth 100000 in
theorem works_calls (w : World) (m : Int) (hm : w.cell? ⟨0, 0, none⟩ = some (.int .i64 m)) : Calls Try.prog 10 #[] w fun e w' => e = .returned (.bool true) ∧ Below w.heap.size w w' := by
  have HM0 := Aside0.mk hm
  have HB0 := Aside0.mk (Below.refl w.heap.size w)
  clear hm
  go_enter Try.func10, Try.ntmps10
  go_wp2_with fail
  refine (tells_calls ⟨#[60, 105, 112, 62, 32, 45, 32, 60, 95, 62, 32, 34, 60, 109, 62, 32, 60, 112, 62, 34]⟩ ⟨#[49, 46, 50, 32, 45, 32, 98, 111, 98, 32, 34, 71, 69, 84, 32, 47, 120, 34, 32, 50, 48, 48]⟩ [⟨#[105, 112]⟩, ⟨#[49, 46, 50]⟩, ⟨#[109]⟩, ⟨#[71, 69, 84]⟩, ⟨#[112]⟩, ⟨#[47, 120]⟩] 0 _ _ (by decide) (by decide) m (cell_bl (below_alloc (Below.refl _ _) (.cells #[.string ⟨#[105, 112]⟩, .string ⟨#[49, 46, 50]⟩, .string ⟨#[109]⟩, .string ⟨#[71, 69, 84]⟩, .string ⟨#[112]⟩, .string ⟨#[47, 120]⟩] 9)) HM0.out) (rowT_lit w [⟨#[105, 112]⟩, ⟨#[49, 46, 50]⟩, ⟨#[109]⟩, ⟨#[71, 69, 84]⟩, ⟨#[112]⟩, ⟨#[47, 120]⟩] #[.string ⟨#[105, 112]⟩, .string ⟨#[49, 46, 50]⟩, .string ⟨#[109]⟩, .string ⟨#[71, 69, 84]⟩, .string ⟨#[112]⟩, .string ⟨#[47, 120]⟩] rfl (by decide))).mono ?_
  rintro e w1 ⟨rfl, hb⟩
  rw [wk0]
  have HB1 := Aside0.mk (below_then (below_alloc HB0.out (.cells #[.string ⟨#[105, 112]⟩, .string ⟨#[49, 46, 50]⟩, .string ⟨#[109]⟩, .string ⟨#[71, 69, 84]⟩, .string ⟨#[112]⟩, .string ⟨#[47, 120]⟩] 9)) hb)
  have HM1 := Aside0.mk (cell_bl hb (cell_bl (below_alloc (Below.refl _ _) (.cells #[.string ⟨#[105, 112]⟩, .string ⟨#[49, 46, 50]⟩, .string ⟨#[109]⟩, .string ⟨#[71, 69, 84]⟩, .string ⟨#[112]⟩, .string ⟨#[47, 120]⟩] 9)) HM0.out))
  clear hb HB0 HM0
  go_wp2_with fail
  refine (tells_calls ⟨#[97, 60, 120, 62]⟩ ⟨#[97, 98, 99]⟩ [⟨#[120]⟩, ⟨#[98, 99]⟩] 0 _ _ (by decide) (by decide) m (cell_bl (below_alloc (Below.refl _ _) (.cells #[.string ⟨#[120]⟩, .string ⟨#[98, 99]⟩] 9)) HM1.out) (rowT_lit w1 [⟨#[120]⟩, ⟨#[98, 99]⟩] #[.string ⟨#[120]⟩, .string ⟨#[98, 99]⟩] rfl (by decide))).mono ?_
  rintro e w2 ⟨rfl, hb⟩
  rw [wk1]
  have HB2 := Aside0.mk (below_then (below_alloc HB1.out (.cells #[.string ⟨#[120]⟩, .string ⟨#[98, 99]⟩] 9)) hb)
  have HM2 := Aside0.mk (cell_bl hb (cell_bl (below_alloc (Below.refl _ _) (.cells #[.string ⟨#[120]⟩, .string ⟨#[98, 99]⟩] 9)) HM1.out))
  clear hb HB1 HM1
  go_wp2_with fail
  refine (tells_calls ⟨#[97, 60, 120, 62]⟩ ⟨#[97]⟩ [] 0 _ _ (by decide) (by decide) m HM2.out (rowT_none _)).mono ?_
  rintro e w3 ⟨rfl, hb⟩
  rw [wk2]
  have HB3 := Aside0.mk (below_then HB2.out hb)
  have HM3 := Aside0.mk (cell_bl hb HM2.out)
  clear hb HB2 HM2
  go_wp2_with fail
  refine (none_calls ⟨#[97, 60, 120, 62]⟩ ⟨#[98]⟩ _ (by decide) (by decide) m HM3.out).mono ?_
  rintro e w4 ⟨rfl, hb⟩
  rw [wk3]
  have HB4 := Aside0.mk (below_then HB3.out hb)
  have HM4 := Aside0.mk (cell_bl hb HM3.out)
  clear hb HB3 HM3
  go_wp2_with fail
  refine (fails_calls ⟨#[60, 120, 62, 60, 121, 62]⟩ _ (by decide)).mono ?_
  rintro e w5 ⟨rfl, hb⟩
  rw [wk4]
  have HB5 := Aside0.mk (below_then HB4.out hb)
  have HM5 := Aside0.mk (cell_bl hb HM4.out)
  clear hb HB4 HM4
  go_wp2_with fail
  refine (fails_calls ⟨#[97, 98, 99]⟩ _ (by decide)).mono ?_
  rintro e w6 ⟨rfl, hb⟩
  rw [wk5]
  have HB6 := Aside0.mk (below_then HB5.out hb)
  have HM6 := Aside0.mk (cell_bl hb HM5.out)
  clear hb HB5 HM5
  go_wp2_with fail
  refine (fails_calls ⟨#[60, 120, 62, 32, 60, 120, 62]⟩ _ (by decide)).mono ?_
  rintro e w7 ⟨rfl, hb⟩
  rw [wk6]
  have HB7 := Aside0.mk (below_then HB6.out hb)
  have HM7 := Aside0.mk (cell_bl hb HM6.out)
  clear hb HB6 HM6
  go_wp2_with fail
  refine (fails_calls ⟨#[60, 95, 62]⟩ _ (by decide)).mono ?_
  rintro e w8 ⟨rfl, hb⟩
  rw [wk7]
  have HB8 := Aside0.mk (below_then HB7.out hb)
  have HM8 := Aside0.mk (cell_bl hb HM7.out)
  clear hb HB7 HM7
  go_wp2_with fail
  refine (fails_calls ⟨#[60, 57, 62]⟩ _ (by decide)).mono ?_
  rintro e w9 ⟨rfl, hb⟩
  rw [wk8]
  have HB9 := Aside0.mk (below_then HB8.out hb)
  have HM9 := Aside0.mk (cell_bl hb HM8.out)
  clear hb HB8 HM8
  go_wp2_with fail
  go_ret
  exact ⟨rfl, HB9.out⟩
end Go.Proofs.Ytpobgpfkohlokaa.PC
